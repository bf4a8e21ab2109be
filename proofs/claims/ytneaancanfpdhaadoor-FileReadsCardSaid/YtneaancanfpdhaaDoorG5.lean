/-
  What is proved here: FileReads: whatever script it is called on, it answers true, and the script reads as it did; on condition that the listed package variables start as the text lays them, which the card ties.
-/
import Derived.Test.YtneaancanfpdhaaDoorG4
import Derived.LaidLaws
import Derived.Test.YtneaancanfpdhaaDoorTie
import Derived.Test.YtneaancanfpdhaaDoorCards
import Derived.SevenTiedAt
set_option linter.unusedSimpArgs false
set_option linter.unusedVariables false
namespace Go.Proofs.YtneaancanfpdhaaDoor
open Go Go.Vd Go.RowKit
attribute [local irreducible] Runs OpsR OpR FloatR AnyR AnyO
variable {gl : Nat → List D}

/-- a fault, as an error or as what is thrown -/
def fltD (code at' : Int) : D := .ifc 66 (.cp [.v (.int .i64 code), .v (.int .i64 at')])

theorem sfail_spec (s : ByteArray) (b : Nat) (tok : ByteArray) (pos : Nat) :
    Tri Tryd.prog gl 58 [scO s b tok pos] [.blk 0 0] fun out ob' => out = .pan (.d (fltD 1 pos)) ∧ ob' = [scO s b tok pos] := by
  unfold scO fltD
  refine triS_of_runs Tryd.func58 rfl Tryd.ntmps58 (rs := []) rfl rfl rfl 1 rfl ?_
  refine runs_region ?_; refine o1 (mv ?_); refine o1 (ncb ?_); refine o1 (fdb ti76 ?_); refine o1 (ldb ti3 ?_); refine o1 (bld ti31 ?_)
  refine oc (T := fun _ => False) (bx ti31 ?_ (hl := by simp only [List.length_cons, List.length_nil, Nat.reduceAdd]; rfl)); refine ops_freeze 1 rfl rfl rfl rfl rfl rfl ?_; refine o1 (f_iface_d ?_); refine oc (T := fun _ => False) (o_panic ?_)
  refine leave_d ([0]) ([scO s b tok pos]) rfl rfl rfl (by repeat (first | exact boz | refine boc ?_)) ?_; exact ⟨rfl, rfl⟩

/-- a scanner that stands at the token behind p -/
def scA (s : ByteArray) (p : Nat) : Ob := scO s (stepAt s p) (stepTok s p) (tokR s p).2.1
theorem stepAt_le {s : ByteArray} {p : Nat} (hp : p ≤ s.size) : p ≤ stepAt s p ∧ stepAt s p ≤ s.size := by
  have := tokR_at (s := s) hp
  unfold stepAt
  split <;> omega

theorem take_ok (s : ByteArray) (hs : s.size ≤ 1099511627776) (b : Nat) (hb : b ≤ s.size) (w : ByteArray) (pos : Nat) :
    Tri Tryd.prog gl 59 [scO s b w pos] [.blk 0 0, .d (.v (.string w))] fun out ob' => out = .ret (.d (.tup [])) ∧ ob' = [scA s b] := by
  unfold scO
  refine triS_of_runs Tryd.func59 rfl Tryd.ntmps59 (rs := []) rfl rfl rfl 1 rfl ?_
  refine runs_seq ?_; refine sr ?_; refine o1 (mv ?_); refine o1 (ncb ?_); refine o1 (fdb ti76 ?_); refine o1 (ldb ti9 ?_); refine o1 (mv ?_); refine o1 (sne ?_); refine nx ?_; refine cd (fun h0 => ?_) (fun h0 => ?_)
  · simp only [nrm, Int.reduceEq, Int.reduceNe, Int.reduceLT, Int.reduceLE] at h0
  (try simp only [nrm, Int.reduceEq, Int.reduceNe, Int.reduceLT, Int.reduceLE] at h0); refine runs_skip ?_; refine seq_normal ?_; refine kp [0] ?_; refine runs_region ?_; refine o1 (mv ?_)
  refine oc (ck ca55 rfl rfl (step_spec s hs b hb w pos) [0] rfl (boc .nil) (fir .nil) ?_); refine ops_nil ?_; refine fin_normal ?_; refine fin_od (l := []) rfl rfl ([0]) ([scA s b]) rfl rfl rfl ?_ ?_
  · repeat (first | exact boz | refine boc ?_)
  · exact ⟨rfl, rfl⟩

theorem take_bad (s : ByteArray) (b : Nat) (tok w : ByteArray) (pos : Nat) (hw : ¬ tok = w) :
    Tri Tryd.prog gl 59 [scO s b tok pos] [.blk 0 0, .d (.v (.string w))] fun out ob' => out = .pan (.d (fltD 1 pos)) ∧ ob' = [scO s b tok pos] := by
  unfold scO
  refine triS_of_runs Tryd.func59 rfl Tryd.ntmps59 (rs := []) rfl rfl rfl 1 rfl ?_
  refine runs_seq ?_; refine sr ?_; refine o1 (mv ?_); refine o1 (ncb ?_); refine o1 (fdb ti76 ?_); refine o1 (ldb ti9 ?_); refine o1 (mv ?_); refine o1 (sne ?_); refine nx ?_; refine cdf (fun h0 => ?_) (fun h0 => ?_)
  · (try simp only [nrm, Int.reduceEq, Int.reduceNe, Int.reduceLT, Int.reduceLE] at h0); contradiction
  (try simp only [nrm, Int.reduceEq, Int.reduceNe, Int.reduceLT, Int.reduceLE] at h0); refine kp [0] ?_; refine runs_region ?_; refine o1 (mv ?_)
  refine oc (op_callo ca58 rfl rfl rfl rfl (sfail_spec s b tok pos) [0] (boc .nil) rfl rfl rfl rfl (fir .nil) (fun s ob' hq => ?_) (fun s ob' hq => ?_))
  · cases hq.1
  obtain ⟨hq1, rfl⟩ := hq; cases hq1; refine ⟨_, _, _, _, _, rfl, rfl, rfl, rfl, rfl, ?_⟩; refine leave_d ([0]) ([scO s b tok pos]) rfl rfl rfl (by repeat (first | exact boz | refine boc ?_)) ?_; exact ⟨rfl, rfl⟩

theorem name_ok (s : ByteArray) (hs : s.size ≤ 1099511627776) (b : Nat) (hb : b ≤ s.size) (w : ByteArray) (pos : Nat) (hw : isNameB w = true) :
    Tri Tryd.prog gl 62 [scO s b w pos] [.blk 0 0] fun out ob' => out = .ret (.d (.v (.string w))) ∧ ob' = [scA s b] := by
  have hb0 := byteAt_bound w 0
  simp only [isNameB, Bool.and_eq_true, decide_eq_true_eq] at hw
  have hw2 := size_pos_of_ne hw.1
  have hem : ¬ w = ⟨#[]⟩ := hw.1
  unfold scO
  refine triS_of_runs Tryd.func62 rfl Tryd.ntmps62 (rs := [.tmp 2]) rfl rfl rfl 1 rfl ?_
  refine sr ?_; refine o1 (asg ?_); refine nx ?_; refine sr ?_; refine o1 (mv ?_); refine o1 (ncb ?_); refine o1 (fdb ti76 ?_); refine o1 (ldb ti9 ?_); refine o1 (asg ?_); refine nx ?_; refine runs_seq ?_; refine kp [3, 0] ?_; refine sr ?_
  refine o1 (mv ?_); refine o1 (seq1 ?_); refine o1 (mv ?_)
  apply ops_or (yt := 14) (d := 10) 4 rfl rfl rfl (.none rfl) rfl rfl
  case h1 =>
    intro hb4 hK
    have hc := hb4; (try simp only [nrm, Int.reduceEq, Int.reduceNe, Int.reduceLT, Int.reduceLE] at hc)
    refine gye ?_ (hbw := by exact hb4); refine o1 (mv ?_); refine gye ?_ (hbw := by exact hb4); refine o1 (byt ut9 ?_); refine gye ?_ (hbw := by exact hb4); refine oc (cv ca72 rfl rfl (letter_spec (byteAt w 0) hb0.1 hb0.2) (fir .nil) ?_)
    refine gye ?_ (hbw := by exact hb4); refine o1 (f_not ?_); exact hK [_, _, _, _] rfl rfl
  case h2 =>
    intro hb4 hK; refine gno ?_ (hbw := by exact hb4); refine gno ?_ (hbw := by exact hb4); refine gno ?_ (hbw := by exact hb4); refine gno ?_ (hbw := by exact hb4); exact hK [_, _, _, _] rfl
  refine nx ?_; refine cd (fun h2 => ?_) (fun h2 => ?_)
  · (try simp only [nrm, Int.reduceEq, Int.reduceNe, Int.reduceLT, Int.reduceLE] at h2); exfalso; rcases h2 with h | h; exact hem h; rw [hw.2] at h; cases h
  (try simp only [nrm, Int.reduceEq, Int.reduceNe, Int.reduceLT, Int.reduceLE] at h2); refine runs_skip ?_; refine seq_normal ?_; refine kp [3, 0] ?_; refine sr ?_; refine o1 (mv ?_)
  refine oc (ck ca55 rfl rfl (step_spec s hs b hb w pos) [0] rfl (boc .nil) (fir .nil) ?_); refine nx ?_; refine sr ?_; refine o1 (mv ?_); refine o1 (asg ?_); refine nx ?_; refine runs_ret ?_; refine fin_ret ?_
  refine fin_od ⟨_, _, rfl, rfl, rfl⟩ rfl ([0]) ([scA s b]) rfl rfl rfl ?_ ?_
  · repeat (first | exact boz | refine boc ?_)
  · exact ⟨rfl, rfl⟩

theorem name_bad (s : ByteArray) (b : Nat) (w : ByteArray) (pos : Nat) (hw : isNameB w = false) :
    Tri Tryd.prog gl 62 [scO s b w pos] [.blk 0 0] fun out ob' => out = .pan (.d (fltD 1 pos)) ∧ ob' = [scO s b w pos] := by
  have hb0 := byteAt_bound w 0
  have hw2 : ¬ w = ⟨#[]⟩ → 0 < w.size := fun h => size_pos_of_ne h
  unfold scO
  refine triS_of_runs Tryd.func62 rfl Tryd.ntmps62 (rs := [.tmp 2]) rfl rfl rfl 1 rfl ?_
  refine sr ?_; refine o1 (asg ?_); refine nx ?_; refine sr ?_; refine o1 (mv ?_); refine o1 (ncb ?_); refine o1 (fdb ti76 ?_); refine o1 (ldb ti9 ?_); refine o1 (asg ?_); refine nx ?_; refine runs_seq ?_; refine kp [3, 0] ?_; refine sr ?_
  refine o1 (mv ?_); refine o1 (seq1 ?_); refine o1 (mv ?_)
  apply ops_or (yt := 14) (d := 10) 4 rfl rfl rfl (.none rfl) rfl rfl
  case h1 =>
    intro hb4 hK
    have hc := hb4; (try simp only [nrm, Int.reduceEq, Int.reduceNe, Int.reduceLT, Int.reduceLE] at hc)
    refine gye ?_ (hbw := by exact hb4); refine o1 (mv ?_)
    have hw3 := hw2 hc
    refine gye ?_ (hbw := by exact hb4); refine o1 (byt ut9 ?_); refine gye ?_ (hbw := by exact hb4); refine oc (cv ca72 rfl rfl (letter_spec (byteAt w 0) hb0.1 hb0.2) (fir .nil) ?_); refine gye ?_ (hbw := by exact hb4); refine o1 (f_not ?_)
    exact hK [_, _, _, _] rfl rfl
  case h2 =>
    intro hb4 hK; refine gno ?_ (hbw := by exact hb4); refine gno ?_ (hbw := by exact hb4); refine gno ?_ (hbw := by exact hb4); refine gno ?_ (hbw := by exact hb4); exact hK [_, _, _, _] rfl
  refine nx ?_; refine cdf (fun h2 => ?_) (fun h2 => ?_)
  · (try simp only [nrm, Int.reduceEq, Int.reduceNe, Int.reduceLT, Int.reduceLE] at h2); exfalso; have h8 : isNameB w = true := (by simp only [isNameB, Bool.and_eq_true, decide_eq_true_eq]; exact ⟨h2.1, h2.2⟩); rw [hw] at h8; cases h8
  (try simp only [nrm, Int.reduceEq, Int.reduceNe, Int.reduceLT, Int.reduceLE] at h2); refine kp [3, 0] ?_; refine runs_region ?_; refine o1 (mv ?_)
  refine oc (op_callo ca58 rfl rfl rfl rfl (sfail_spec s b w pos) [0] (boc .nil) rfl rfl rfl rfl (fir .nil) (fun s ob' hq => ?_) (fun s ob' hq => ?_))
  · cases hq.1
  obtain ⟨hq1, rfl⟩ := hq; cases hq1; refine ⟨_, _, _, _, _, rfl, rfl, rfl, rfl, rfl, ?_⟩; refine leave_d ([0]) ([scO s b w pos]) rfl rfl rfl (by repeat (first | exact boz | refine boc ?_)) ?_; exact ⟨rfl, rfl⟩

theorem end_ok (s : ByteArray) (b pos : Nat) :
    Tri Tryd.prog gl 31 [scO s b .empty pos] [.blk 0 0] fun out ob' => out = .ret (.d (.tup [])) ∧ ob' = [scO s b .empty pos] := by
  unfold scO
  refine triS_of_runs Tryd.func31 rfl Tryd.ntmps31 (rs := []) rfl rfl rfl 1 rfl ?_
  refine sr ?_; refine o1 (mv ?_); refine o1 (ncb ?_); refine o1 (fdb ti76 ?_); refine o1 (ldb ti9 ?_); refine o1 (sne ?_); refine nx ?_; refine cd (fun h0 => ?_) (fun h0 => ?_)
  · (try simp only [nrm, Int.reduceEq, Int.reduceNe, Int.reduceLT, Int.reduceLE] at h0); contradiction
  (try simp only [nrm, Int.reduceEq, Int.reduceNe, Int.reduceLT, Int.reduceLE] at h0); refine runs_skip ?_; refine fin_normal ?_; refine fin_od (l := []) rfl rfl ([0]) ([scO s b .empty pos]) rfl rfl rfl ?_ ?_
  · repeat (first | exact boz | refine boc ?_)
  · exact ⟨rfl, rfl⟩
theorem end_bad (s : ByteArray) (b : Nat) (tok : ByteArray) (pos : Nat) (hw : ¬ tok = .empty) :
    Tri Tryd.prog gl 31 [scO s b tok pos] [.blk 0 0] fun out ob' => out = .pan (.d (fltD 1 pos)) ∧ ob' = [scO s b tok pos] := by
  unfold scO
  refine triS_of_runs Tryd.func31 rfl Tryd.ntmps31 (rs := []) rfl rfl rfl 1 rfl ?_
  refine sr ?_; refine o1 (mv ?_); refine o1 (ncb ?_); refine o1 (fdb ti76 ?_); refine o1 (ldb ti9 ?_); refine o1 (sne ?_); refine nx ?_; refine cdf (fun h0 => ?_) (fun h0 => ?_)
  · (try simp only [nrm, Int.reduceEq, Int.reduceNe, Int.reduceLT, Int.reduceLE] at h0); contradiction
  (try simp only [nrm, Int.reduceEq, Int.reduceNe, Int.reduceLT, Int.reduceLE] at h0); refine kp [0] ?_; refine runs_region ?_; refine o1 (mv ?_)
  refine oc (op_callo ca58 rfl rfl rfl rfl (sfail_spec s b tok pos) [0] (boc .nil) rfl rfl rfl rfl (fir .nil) (fun s ob' hq => ?_) (fun s ob' hq => ?_))
  · cases hq.1
  obtain ⟨hq1, rfl⟩ := hq; cases hq1; refine ⟨_, _, _, _, _, rfl, rfl, rfl, rfl, rfl, ?_⟩; refine leave_d ([0]) ([scO s b tok pos]) rfl rfl rfl (by repeat (first | exact boz | refine boc ?_)) ?_; exact ⟨rfl, rfl⟩
theorem new_spec (s : ByteArray) (hs : s.size ≤ 1099511627776) :
    Tri Tryd.prog gl 29 [] [.d (.v (.string s))] fun out ob' => out = .ret (.blk 0 0) ∧ ob' = [scA s 0] := by
  refine triS_of_runs Tryd.func29 rfl Tryd.ntmps29 (rs := [.tmp 2]) rfl rfl rfl 0 rfl ?_
  refine sr ?_; refine o1 (asg ?_); refine nx ?_; refine sr ?_; refine o1 (mv ?_); refine o1 (bld ti76 ?_); refine oc (T := fun _ => False) (bx ti76 ?_ (hl := by simp only [List.length_cons, List.length_nil, Nat.reduceAdd]; rfl))
  refine o1 (asg ?_); refine nx ?_; refine kp [3] ?_; refine sr ?_; refine o1 (mv ?_); refine oc (ck ca55 rfl rfl (step_spec s hs 0 (Nat.zero_le _) .empty 0) [0] rfl (boc .nil) (fir .nil) ?_); refine nx ?_; refine sr ?_; refine o1 (mv ?_)
  refine o1 (asg ?_); refine nx ?_; refine runs_ret ?_; refine fin_ret ?_; refine fin_o ⟨_, _, rfl, rfl, rfl⟩ [0] (.blk 0 0) ([scA s 0]) rfl rfl rfl ?_ rfl ?_ ?_
  · repeat (first | exact boz | refine boc ?_)
  · exact .refl _
  · exact ⟨rfl, rfl⟩
end Go.Proofs.YtneaancanfpdhaaDoor
namespace Go.Proofs.YtneaancanfpdhaaDoor
open Go Go.Vd Go.RowKit
attribute [local irreducible] Runs OpsR OpR FloatR AnyR AnyO
variable {gl : Nat → List D}

theorem step_tok {s : ByteArray} {p : Nat} (h : (tokR s p).1 ≠ .empty) : stepTok s p = (tokR s p).1 ∧ stepAt s p = (nextR s ⟨p, none⟩).2.p ∧ (nextR s ⟨p, none⟩).2.f = none := by
  have h2 : (tokR s p).2.2 = true := by
    cases h3 : (tokR s p).2.2 with
    | true => rfl
    | false => exact absurd (tokR_empty h3) h
  rw [nextR_ok h]
  unfold stepTok stepAt
  rw [if_pos h2, if_pos h2]
  exact ⟨rfl, rfl, rfl⟩
theorem step_emp {s : ByteArray} {p : Nat} (h : (tokR s p).1 = .empty) : stepTok s p = .empty ∨ stepTok s p = ⟨#[0]⟩ := by
  unfold stepTok
  split
  · exact .inl h
  · exact .inr rfl
theorem step_is {s : ByteArray} {p : Nat} {w : ByteArray} (h1 : w ≠ .empty) (h2 : w ≠ ⟨#[0]⟩) : stepTok s p = w ↔ (tokR s p).1 = w := by
  by_cases h : (tokR s p).1 = .empty
  · constructor
    · intro e; rcases step_emp h with h3 | h3
      · rw [h3] at e; exact absurd e.symm h1
      · rw [h3] at e; exact absurd e.symm h2
    · intro e; rw [h] at e; exact absurd e.symm h1
  · rw [(step_tok h).1]
theorem step_isName {s : ByteArray} {p : Nat} : isNameB (stepTok s p) = isNameB (tokR s p).1 := by
  by_cases h : (tokR s p).1 = .empty
  · rw [h]
    rcases step_emp h with h3 | h3 <;> rw [h3]
    decide +kernel
  · rw [(step_tok h).1]

/-- what a scanner's Level does, by what the reference's reader reads -/
def LvQ (s : ByteArray) (r : Lvl × RS) (out : Out) (ob' : List Ob) : Prop :=
  (r.2.f = none → out = .ret (.d r.1.d) ∧ ob' = [scA s r.2.p]) ∧ (∀ a, r.2.f = some a → out = .pan (.d (fltD 1 a)) ∧ ob' = [.dead])
theorem LvQ.ok {s : ByteArray} {r : Lvl × RS} {out : Out} {ob' : List Ob} (hf : r.2.f = none) (h : out = .ret (.d r.1.d) ∧ ob' = [scA s r.2.p]) : LvQ s r out ob' :=
  ⟨fun _ => h, fun a e => by rw [hf] at e; cases e⟩
theorem LvQ.bad {s : ByteArray} {r : Lvl × RS} {out : Out} {ob' : List Ob} {a : Nat} (hf : r.2.f = some a) (h : out = .pan (.d (fltD 1 a)) ∧ ob' = [.dead]) : LvQ s r out ob' :=
  ⟨fun e => (by rw [hf] at e; cases e), fun b e => by rw [hf] at e; cases e; exact h⟩
theorem LvQ.ret {s : ByteArray} {r : Lvl × RS} {v : SV} {ob' : List Ob} (h : LvQ s r (.ret v) ob') : r.2.f = none ∧ v = .d r.1.d ∧ ob' = [scA s r.2.p] := by
  cases hf : r.2.f with
  | none =>
    obtain ⟨h1, h2⟩ := h.1 hf
    cases h1
    exact ⟨rfl, rfl, h2⟩
  | some a => obtain ⟨h1, _⟩ := h.2 a hf; cases h1
theorem LvQ.pan {s : ByteArray} {r : Lvl × RS} {v : SV} {ob' : List Ob} (h : LvQ s r (.pan v) ob') : ∃ a, r.2.f = some a ∧ v = .d (fltD 1 a) ∧ ob' = [.dead] := by
  cases hf : r.2.f with
  | none => obtain ⟨h1, _⟩ := h.1 hf; cases h1
  | some a =>
    obtain ⟨h1, h2⟩ := h.2 a hf
    cases h1
    exact ⟨a, rfl, rfl, h2⟩

theorem stake_spec (s : ByteArray) (hs : s.size ≤ 1099511627776) (b : Nat) (hb : b ≤ s.size) (tok w : ByteArray) (pos : Nat) :
    Tri Tryd.prog gl 59 [scO s b tok pos] [.blk 0 0, .d (.v (.string w))] fun out ob' => (tok = w ∧ out = .ret (.d (.tup [])) ∧ ob' = [scA s b]) ∨ (¬ tok = w ∧ out = .pan (.d (fltD 1 pos)) ∧ ob' = [scO s b tok pos]) := by
  by_cases h : tok = w
  · subst h; exact (take_ok s hs b hb tok pos).mono fun o b hq => .inl ⟨rfl, hq⟩
  · exact (take_bad s b tok w pos h).mono fun o b hq => .inr ⟨h, hq⟩
theorem takeR_some {s w : ByteArray} {p a : Nat} : (takeR s w ⟨p, some a⟩).f = some a := by
  unfold takeR; dsimp only; split <;> rfl
theorem takeR_yes {s w : ByteArray} {p : Nat} (hw : w ≠ .empty) (h : (tokR s p).1 = w) : takeR s w ⟨p, none⟩ = ⟨stepAt s p, none⟩ := by
  have hne : (tokR s p).1 ≠ .empty := by rw [h]; exact hw
  have h2 : (tokR s p).2.2 = true := by
    cases h3 : (tokR s p).2.2 with
    | true => rfl
    | false => exact absurd (tokR_empty h3) hne
  unfold takeR stepAt; dsimp only
  rw [if_neg (by rintro (h3 | h3); rw [h2] at h3; cases h3; exact h3 h), if_pos h2]
theorem takeR_no {s w : ByteArray} {p : Nat} (h : ¬ (tokR s p).1 = w) : (takeR s w ⟨p, none⟩).f = some (tokR s p).2.1 := by
  unfold takeR; dsimp only
  rw [if_pos (.inr h)]; rfl
theorem nextR_eq {s : ByteArray} {p : Nat} (h : (tokR s p).1 ≠ .empty) : (nextR s ⟨p, none⟩).2 = ⟨stepAt s p, none⟩ := by
  obtain ⟨_, ha, hf⟩ := step_tok h
  rw [ha]
  cases hx : (nextR s ⟨p, none⟩).2 with
  | mk q f => rw [hx] at hf; simp only at hf ⊢; rw [hf]

theorem levelR_some {s : ByteArray} {p a : Nat} : ∀ n, levelR n s ⟨p, some a⟩ = (zeroL, ⟨p, some a⟩)
  | 0 => rfl
  | _ + 1 => rfl
theorem kind_one {w : ByteArray} (h : kindR w = 1) : w = ⟨#[115]⟩ := by
  unfold kindR at h
  split at h
  · assumption
  · split at h
    · cases h
    · split at h <;> cases h
theorem kind_two {w : ByteArray} (h : kindR w = 2) : w = ⟨#[109, 97, 120]⟩ := by
  unfold kindR at h
  split at h
  · cases h
  · split at h
    · assumption
    · split at h <;> cases h
theorem kind_three {w : ByteArray} (h : kindR w = 3) : w = ⟨#[105, 109, 97, 120]⟩ := by
  unfold kindR at h
  split at h
  · cases h
  · split at h
    · cases h
    · split at h
      · assumption
      · cases h

theorem slevel_spec (s : ByteArray) (hs : s.size ≤ 1099511627776) : ∀ (n p : Nat), p ≤ s.size → s.size < n + p →
    Tri Tryd.prog gl 61 [scA s p] [.blk 0 0] (LvQ s (levelR n s ⟨p, none⟩)) := by
  intro n
  induction n with
  | zero => intro p hp hn; omega
  | succ n ih =>
    intro p hp hn
    have hsl := stepAt_le hp
    by_cases c0 : (tokR s p).1 = ⟨#[48]⟩
    · have ht : stepTok s p = ⟨#[48]⟩ := (step_is (by decide) (by decide)).2 c0
      obtain ⟨_, ha, hf⟩ := step_tok (s := s) (p := p) (by rw [c0]; decide)
      rw [levelR_zero c0]
      unfold scA scO
      rw [ht]
      refine triS_of_runs Tryd.func61 rfl Tryd.ntmps61 (rs := [.cell 2 90]) rfl rfl rfl 1 rfl ?_
      refine sr ?_; refine oc (T := fun _ => False) (alc ti90 ?_ (hl := by simp only [List.length_cons, List.length_nil, Nat.reduceAdd]; rfl)); refine nx ?_; refine runs_seq ?_; refine sr ?_; refine o1 (mv ?_); refine o1 (ncb ?_)
      refine o1 (fdb ti76 ?_); refine o1 (ldb ti9 ?_); refine nx ?_; refine runs_block ?_; refine sr ?_; refine o1 (seq1 ?_); refine o1 (asg ?_); refine nx ?_; refine cdf (fun h2 => ?_) (fun h2 => ?_)
      · simp only [nrm, Int.reduceEq, Int.reduceNe, Int.reduceLT, Int.reduceLE] at h2
      (try simp only [nrm, Int.reduceEq, Int.reduceNe, Int.reduceLT, Int.reduceLE] at h2); refine kp [2, 0] ?_; refine sr ?_; refine o1 (mv ?_)
      refine oc (ck ca55 rfl rfl (step_spec s hs (stepAt s p) hsl.2 ⟨#[48]⟩ (tokR s p).2.1) [0] rfl (boc .nil) (fir .nil) ?_); refine nx ?_; refine sr ?_; refine o1 (bld ti90 ?_); refine oc (sto ti90 ?_); refine nx ?_; refine runs_ret ?_
      refine inb_ret ?_; refine seq_ret ?_; refine fin_ret ?_
      refine fin_odl ⟨_, _, rfl, (from_cell rfl rfl ti90 rfl rfl rfl rfl), rfl⟩ rfl (zeroL.d) (by repeat (first | exact .refl _ | exact .nil | refine .agg ?_ | refine .cons ?_ ?_)) ([0]) ([scA s (stepAt s p)]) rfl rfl rfl ?_ ?_
      · repeat (first | exact boz | refine boc ?_)
      · exact LvQ.ok hf ⟨rfl, by rw [ha]⟩
    have c0' : ¬ stepTok s p = ⟨#[48]⟩ := fun e => c0 ((step_is (by decide) (by decide)).1 e)
    cases c1 : isNameB (tokR s p).1 with
    | true =>
      have hne : (tokR s p).1 ≠ .empty := by
        intro e; rw [e] at c1; simp [isNameB] at c1
      obtain ⟨ht, ha, hf⟩ := step_tok hne
      have c2' : ¬ stepTok s p = ⟨#[40]⟩ := by
        intro e; rw [ht] at e; rw [e] at c1; exact absurd c1 (by decide +kernel)
      rw [levelR_name c0 c1]
      rw [← ht] at c1
      unfold scA scO
      refine triS_of_runs Tryd.func61 rfl Tryd.ntmps61 (rs := [.cell 2 90]) rfl rfl rfl 1 rfl ?_
      refine sr ?_; refine oc (T := fun _ => False) (alc ti90 ?_ (hl := by simp only [List.length_cons, List.length_nil, Nat.reduceAdd]; rfl)); refine nx ?_; refine runs_seq ?_; refine sr ?_; refine o1 (mv ?_); refine o1 (ncb ?_)
      refine o1 (fdb ti76 ?_); refine o1 (ldb ti9 ?_); refine nx ?_; refine runs_block ?_; refine sr ?_; refine o1 (seq1 ?_); refine o1 (asg ?_); refine nx ?_; refine cd (fun h2 => ?_) (fun h2 => ?_)
      · (try simp only [nrm, Int.reduceEq, Int.reduceNe, Int.reduceLT, Int.reduceLE] at h2); contradiction
      (try simp only [nrm, Int.reduceEq, Int.reduceNe, Int.reduceLT, Int.reduceLE] at h2); refine kp [7, 2, 0] ?_; refine sr ?_; refine o1 (seq1 ?_); refine o1 (asg ?_); refine nx ?_; refine cd (fun h5 => ?_) (fun h5 => ?_)
      · (try simp only [nrm, Int.reduceEq, Int.reduceNe, Int.reduceLT, Int.reduceLE] at h5); contradiction
      (try simp only [nrm, Int.reduceEq, Int.reduceNe, Int.reduceLT, Int.reduceLE] at h5); refine runs_skip ?_; refine inb_normal ?_; refine seq_normal ?_; refine sr ?_; refine o1 (mv ?_)
      refine oc (ck ca62 rfl rfl (name_ok s hs (stepAt s p) hsl.2 (stepTok s p) (tokR s p).2.1 c1) [0] rfl (boc .nil) (fir .nil) ?_); refine o1 (bld ti90 ?_); refine oc (sto ti90 ?_); refine nx ?_; refine runs_ret ?_; refine fin_ret ?_
      refine fin_odl ⟨_, _, rfl, (from_cell rfl rfl ti90 rfl rfl rfl rfl), rfl⟩ rfl ((Lvl.mk 4 (stepTok s p) []).d) (by repeat (first | exact .refl _ | exact .nil | refine .agg ?_ | refine .cons ?_ ?_)) ([0]) ([scA s (stepAt s p)]) rfl rfl rfl ?_ ?_
      · repeat (first | exact boz | refine boc ?_)
      · exact LvQ.ok hf ⟨by rw [ht], by rw [ha]⟩
    | false =>
      by_cases c2 : (tokR s p).1 = ⟨#[40]⟩
      · have hne : (tokR s p).1 ≠ .empty := by rw [c2]; decide
        have ht : stepTok s p = ⟨#[40]⟩ := (step_is (by decide) (by decide)).2 c2
        have e1 := nextR_eq hne
        rcases kindR_case (tokR s (stepAt s p)).1 with hk | ⟨hk, hne2⟩
        · rw [levelR_kind c0 c1 c2 (by rw [e1]; exact hk), e1]
          have k1 : ∀ w, kindR w ≠ 0 → w ≠ .empty → w ≠ ⟨#[0]⟩ → ¬ stepTok s (stepAt s p) = w := fun w h1 h2 h3 e => by
            rw [(step_is h2 h3).1 e] at hk; exact h1 hk
          unfold scA scO
          rw [ht]
          refine triS_of_runs Tryd.func61 rfl Tryd.ntmps61 (rs := [.cell 2 90]) rfl rfl rfl 1 rfl ?_
          refine sr ?_; refine oc (T := fun _ => False) (alc ti90 ?_ (hl := by simp only [List.length_cons, List.length_nil, Nat.reduceAdd]; rfl)); refine nx ?_; refine runs_seq ?_; refine sr ?_; refine o1 (mv ?_); refine o1 (ncb ?_)
          refine o1 (fdb ti76 ?_); refine o1 (ldb ti9 ?_); refine nx ?_; refine runs_block ?_; refine sr ?_; refine o1 (seq1 ?_); refine o1 (asg ?_); refine nx ?_; refine cd (fun h2 => ?_) (fun h2 => ?_)
          · (try simp only [nrm, Int.reduceEq, Int.reduceNe, Int.reduceLT, Int.reduceLE] at h2); contradiction
          (try simp only [nrm, Int.reduceEq, Int.reduceNe, Int.reduceLT, Int.reduceLE] at h2); refine kp [7, 2, 0] ?_; refine sr ?_; refine o1 (seq1 ?_); refine o1 (asg ?_); refine nx ?_; refine cdf (fun h5 => ?_) (fun h5 => ?_)
          · simp only [nrm, Int.reduceEq, Int.reduceNe, Int.reduceLT, Int.reduceLE] at h5
          (try simp only [nrm, Int.reduceEq, Int.reduceNe, Int.reduceLT, Int.reduceLE] at h5); refine sr ?_; refine o1 (mv ?_); refine oc (ck ca55 rfl rfl (step_spec s hs (stepAt s p) hsl.2 ⟨#[40]⟩ (tokR s p).2.1) [0] rfl (boc .nil) (fir .nil) ?_)
          refine nx ?_; refine kp [2, 0] ?_; refine sr ?_; refine oc (T := fun _ => False) (alc ti90 ?_ (hl := by simp only [List.length_cons, List.length_nil, Nat.reduceAdd]; rfl)); refine nx ?_; refine runs_seq ?_; refine sr ?_; refine o1 (mv ?_)
          refine o1 (ncb ?_); refine o1 (fdb ti76 ?_); refine o1 (ldb ti9 ?_); refine nx ?_; refine runs_block ?_; refine sr ?_; refine o1 (seq1 ?_); refine o1 (asg ?_); refine nx ?_; refine cd (fun h10 => ?_) (fun h10 => ?_)
          · (try simp only [nrm, Int.reduceEq, Int.reduceNe, Int.reduceLT, Int.reduceLE] at h10); exfalso; exact k1 _ (by decide) (by decide) (by decide) h10
          (try simp only [nrm, Int.reduceEq, Int.reduceNe, Int.reduceLT, Int.reduceLE] at h10); refine kp [20, 3, 2, 0] ?_; refine sr ?_; refine o1 (seq1 ?_); refine o1 (asg ?_); refine nx ?_; refine cd (fun h12 => ?_) (fun h12 => ?_)
          · (try simp only [nrm, Int.reduceEq, Int.reduceNe, Int.reduceLT, Int.reduceLE] at h12); exfalso; exact k1 _ (by decide) (by decide) (by decide) h12
          (try simp only [nrm, Int.reduceEq, Int.reduceNe, Int.reduceLT, Int.reduceLE] at h12); refine sr ?_; refine o1 (seq1 ?_); refine o1 (asg ?_); refine nx ?_; refine cd (fun h14 => ?_) (fun h14 => ?_)
          · (try simp only [nrm, Int.reduceEq, Int.reduceNe, Int.reduceLT, Int.reduceLE] at h14); exfalso; exact k1 _ (by decide) (by decide) (by decide) h14
          (try simp only [nrm, Int.reduceEq, Int.reduceNe, Int.reduceLT, Int.reduceLE] at h14); refine kp [3, 2, 0] ?_; refine runs_region ?_; refine o1 (mv ?_)
          refine oc (op_callo ca58 rfl rfl rfl rfl (sfail_spec s (stepAt s (stepAt s p)) (stepTok s (stepAt s p)) (tokR s (stepAt s p)).2.1) [0] (boc .nil) rfl rfl rfl rfl (fir .nil) (fun s ob' hq => ?_) (fun s ob' hq => ?_))
          · cases hq.1
          obtain ⟨hq1, rfl⟩ := hq; cases hq1; refine ⟨_, _, _, _, _, rfl, rfl, rfl, rfl, rfl, ?_⟩; refine leave_d ([0]) ([.dead]) rfl rfl rfl (by repeat (first | exact boz | refine bod ?_)) ?_
          exact LvQ.bad (a := (tokR s (stepAt s p)).2.1) rfl ⟨rfl, rfl⟩
        · have e2 := nextR_eq hne2
          have hl2 := stepAt_le hsl.2
          have hl1 : p < stepAt s p := by
            have h7 := tokR_at (s := s) hp
            have h8 := size_pos_of_ne hne
            have h9 := step_tok hne
            rw [h9.2.1, nextR_ok hne]; simp only; omega
          have ih1 := ih (stepAt s (stepAt s p)) hl2.2 (by omega)
          have hle1 := levelR_le (s := s) n (r := ⟨stepAt s (stepAt s p), none⟩) hl2.2
          rcases hk with hk | hk | hk
          · rw [levelR_one c0 c1 c2 (by rw [e1]; exact hk), e1, e2]
            have t2 : stepTok s (stepAt s p) = ⟨#[115]⟩ := (step_is (by decide) (by decide)).2 (kind_one hk)
            rcases hla : levelR n s ⟨stepAt s (stepAt s p), none⟩ with ⟨la, pa, fa⟩
            rw [hla] at ih1 hle1
            obtain ⟨ka, na, aa⟩ := la
            simp only at hle1
            unfold scA scO
            unfold scA scO at ih1
            rw [ht]
            refine triS_of_runs Tryd.func61 rfl Tryd.ntmps61 (rs := [.cell 2 90]) rfl rfl rfl 1 rfl ?_
            refine sr ?_; refine oc (T := fun _ => False) (alc ti90 ?_ (hl := by simp only [List.length_cons, List.length_nil, Nat.reduceAdd]; rfl)); refine nx ?_; refine runs_seq ?_; refine sr ?_; refine o1 (mv ?_); refine o1 (ncb ?_)
            refine o1 (fdb ti76 ?_); refine o1 (ldb ti9 ?_); refine nx ?_; refine runs_block ?_; refine sr ?_; refine o1 (seq1 ?_); refine o1 (asg ?_); refine nx ?_; refine cd (fun h2 => ?_) (fun h2 => ?_)
            · (try simp only [nrm, Int.reduceEq, Int.reduceNe, Int.reduceLT, Int.reduceLE] at h2); contradiction
            (try simp only [nrm, Int.reduceEq, Int.reduceNe, Int.reduceLT, Int.reduceLE] at h2); refine kp [7, 2, 0] ?_; refine sr ?_; refine o1 (seq1 ?_); refine o1 (asg ?_); refine nx ?_; refine cdf (fun h5 => ?_) (fun h5 => ?_)
            · simp only [nrm, Int.reduceEq, Int.reduceNe, Int.reduceLT, Int.reduceLE] at h5
            (try simp only [nrm, Int.reduceEq, Int.reduceNe, Int.reduceLT, Int.reduceLE] at h5); refine sr ?_; refine o1 (mv ?_)
            refine oc (op_callo ca55 rfl rfl rfl rfl (step_spec s hs (stepAt s p) hsl.2 ⟨#[40]⟩ (tokR s p).2.1) [0] (boc .nil) rfl rfl rfl rfl (fir .nil) (fun s ob' hq => ?_) (fun s ob' hq => ?_))
            rotate_left
            · first | exact hq.elim | cases hq.1
            obtain ⟨hq1, rfl⟩ := hq; cases hq1
            unfold scO
            rw [t2]
            refine ⟨_, _, _, _, _, rfl, rfl, rfl, rfl, rfl, ?_⟩; refine nx ?_; refine kp [2, 0] ?_; refine sr ?_; refine oc (T := fun _ => False) (alc ti90 ?_ (hl := by simp only [List.length_cons, List.length_nil, Nat.reduceAdd]; rfl)); refine nx ?_
            refine runs_seq ?_; refine sr ?_; refine o1 (mv ?_); refine o1 (ncb ?_); refine o1 (fdb ti76 ?_); refine o1 (ldb ti9 ?_); refine nx ?_; refine runs_block ?_; refine sr ?_; refine o1 (seq1 ?_); refine o1 (asg ?_); refine nx ?_
            refine cdf (fun h10 => ?_) (fun h10 => ?_)
            · simp only [nrm, Int.reduceEq, Int.reduceNe, Int.reduceLT, Int.reduceLE] at h10
            (try simp only [nrm, Int.reduceEq, Int.reduceNe, Int.reduceLT, Int.reduceLE] at h10); refine kp [3, 2, 0] ?_; refine runs_region ?_; refine o1 (fdb ti90 ?_); refine oc (sto ti3 ?_); refine ops_nil ?_; refine inb_normal ?_
            refine seq_normal ?_; refine sr ?_; refine o1 (mv ?_); refine oc (ck ca55 rfl rfl (step_spec s hs (stepAt s (stepAt s p)) hl2.2 ⟨#[115]⟩ (tokR s (stepAt s p)).2.1) [0] rfl (boc .nil) (fir .nil) ?_); refine nx ?_; refine runs_seq ?_
            skip
            refine a_start ?_ (hm := by exact mixed); refine A1 0 rfl (fdb ti90 ⟨_, rfl, ?_⟩); refine A1 1 rfl (ldb ti26 ⟨_, rfl, ?_⟩); refine A1 2 rfl (mv ⟨_, rfl, ?_⟩)
            refine A2 3 rfl (op_callo ca61 rfl rfl rfl rfl (ih1) [0] (boc .nil) rfl rfl rfl rfl (fir .nil) (fun s ob' hq => ?_) (fun s ob' hq => ?_))
            rotate_left
            · obtain ⟨a, hfa, rfl, rfl⟩ := hq.pan
              refine ⟨_, _, _, _, _, rfl, rfl, rfl, rfl, rfl, ?_⟩; refine leave_d ([0]) ([.dead]) rfl rfl rfl (by repeat (first | exact boz | refine bod ?_)) ?_
              simp only at hfa; subst hfa; exact LvQ.bad takeR_some ⟨rfl, rfl⟩
            obtain ⟨hfa, rfl, rfl⟩ := hq.ret; simp only at hfa; subst hfa; refine ⟨_, _, _, _, _, rfl, rfl, rfl, rfl, rfl, ?_⟩
            refine A2 (T := fun _ => False) 4 rfl (op_lit sl26 [.tmp 37] ti90 rfl rfl rfl rfl rfl rfl rfl (by decide) (by decide) (by decide) (by simp only [List.length_cons, List.length_nil, Nat.reduceAdd]; rfl) rfl ?_)
            refine A2 (T := fun _ => False) 5 rfl (op_append_nil sl26 rfl rfl rfl rfl rfl rfl (by simp only [List.length_cons, List.length_nil, Nat.reduceAdd]; rfl) rfl rfl (by decide) (by simp) (by first | decide | (simp only [maxLen, List.length_cons, List.length_nil, List.length_append, List.length_map]; omega) | omega) rfl rfl rfl ?_)
            refine A1 6 rfl (fdb ti90 ⟨_, rfl, ?_⟩); refine A2 7 rfl (sto ti26 ?_); refine a_end ?_; refine seq_normal ?_; refine runs_seq ?_; refine kp [3, 2, 0] ?_; refine sr ?_; refine o1 (fdb ti90 ?_); refine o1 (ldb ti3 ?_); refine o1 (ine ?_)
            refine nx ?_; refine cd (fun h18 => ?_) (fun h18 => ?_)
            · simp only [nrm, Int.reduceEq, Int.reduceNe, Int.reduceLT, Int.reduceLE] at h18
            (try simp only [nrm, Int.reduceEq, Int.reduceNe, Int.reduceLT, Int.reduceLE] at h18); refine runs_skip ?_; refine seq_normal ?_; refine sr ?_; refine o1 (mv ?_)
            refine oc (op_callo ca59 rfl rfl rfl rfl (stake_spec s hs (stepAt s pa) (stepAt_le hle1.2).2 (stepTok s pa) ⟨#[41]⟩ (tokR s pa).2.1) [0] (boc .nil) rfl rfl rfl rfl (fir (fir .nil)) (fun s ob' hq => ?_) (fun s ob' hq => ?_))
            rotate_left
            · rcases hq with ⟨_, hq1, _⟩ | ⟨htk, hq1, rfl⟩
              · cases hq1
              cases hq1; refine ⟨_, _, _, _, _, rfl, rfl, rfl, rfl, rfl, ?_⟩; refine leave_d ([0]) ([.dead]) rfl rfl rfl (by repeat (first | exact boz | refine bod ?_)) ?_
              exact LvQ.bad (takeR_no fun e => htk ((step_is (by decide) (by decide)).2 e)) ⟨rfl, rfl⟩
            rcases hq with ⟨htk, hq1, rfl⟩ | ⟨_, hq1, _⟩
            rotate_left
            · cases hq1
            cases hq1; refine ⟨_, _, _, _, _, rfl, rfl, rfl, rfl, rfl, ?_⟩; refine nx ?_; refine kp [3, 2] ?_; refine sr ?_; refine o1 (ldb ti90 ?_); refine oc (sto ti90 ?_); refine nx ?_; refine runs_ret ?_; refine inb_ret ?_; refine seq_ret ?_
            refine fin_ret ?_; refine fin_odl ⟨_, _, rfl, (from_cell rfl rfl ti90 rfl rfl rfl rfl), rfl⟩ rfl ((Lvl.mk 1 .empty [.mk ka na aa]).d) (by exact .refl _) ([0]) ([scA s (stepAt s pa)]) rfl rfl rfl ?_ ?_
            · repeat (first | exact boz | refine boc ?_)
            · rw [takeR_yes (by decide) ((step_is (by decide) (by decide)).1 htk)]
              exact LvQ.ok rfl ⟨rfl, rfl⟩
          · rw [levelR_two c0 c1 c2 (by rw [e1]; simp only [hk]; decide) (by rw [e1]; simp only [hk]; decide), e1, e2, hk]
            have t2 : stepTok s (stepAt s p) = ⟨#[109, 97, 120]⟩ := (step_is (by decide) (by decide)).2 (kind_two hk)
            rcases hla : levelR n s ⟨stepAt s (stepAt s p), none⟩ with ⟨la, pa, fa⟩
            rw [hla] at ih1 hle1
            obtain ⟨ka, na, aa⟩ := la
            simp only at hle1
            have ih2 := fun h => ih pa hle1.2 h
            have hle2 := levelR_le (s := s) n (r := ⟨pa, none⟩) hle1.2
            unfold scA scO
            unfold scA scO at ih1 ih2
            rw [ht]
            refine triS_of_runs Tryd.func61 rfl Tryd.ntmps61 (rs := [.cell 2 90]) rfl rfl rfl 1 rfl ?_
            refine sr ?_; refine oc (T := fun _ => False) (alc ti90 ?_ (hl := by simp only [List.length_cons, List.length_nil, Nat.reduceAdd]; rfl)); refine nx ?_; refine runs_seq ?_; refine sr ?_; refine o1 (mv ?_); refine o1 (ncb ?_)
            refine o1 (fdb ti76 ?_); refine o1 (ldb ti9 ?_); refine nx ?_; refine runs_block ?_; refine sr ?_; refine o1 (seq1 ?_); refine o1 (asg ?_); refine nx ?_; refine cd (fun h2 => ?_) (fun h2 => ?_)
            · (try simp only [nrm, Int.reduceEq, Int.reduceNe, Int.reduceLT, Int.reduceLE] at h2); contradiction
            (try simp only [nrm, Int.reduceEq, Int.reduceNe, Int.reduceLT, Int.reduceLE] at h2); refine kp [7, 2, 0] ?_; refine sr ?_; refine o1 (seq1 ?_); refine o1 (asg ?_); refine nx ?_; refine cdf (fun h5 => ?_) (fun h5 => ?_)
            · simp only [nrm, Int.reduceEq, Int.reduceNe, Int.reduceLT, Int.reduceLE] at h5
            (try simp only [nrm, Int.reduceEq, Int.reduceNe, Int.reduceLT, Int.reduceLE] at h5); refine sr ?_; refine o1 (mv ?_)
            refine oc (op_callo ca55 rfl rfl rfl rfl (step_spec s hs (stepAt s p) hsl.2 ⟨#[40]⟩ (tokR s p).2.1) [0] (boc .nil) rfl rfl rfl rfl (fir .nil) (fun s ob' hq => ?_) (fun s ob' hq => ?_))
            rotate_left
            · first | exact hq.elim | cases hq.1
            obtain ⟨hq1, rfl⟩ := hq; cases hq1
            unfold scO
            rw [t2]
            refine ⟨_, _, _, _, _, rfl, rfl, rfl, rfl, rfl, ?_⟩; refine nx ?_; refine kp [2, 0] ?_; refine sr ?_; refine oc (T := fun _ => False) (alc ti90 ?_ (hl := by simp only [List.length_cons, List.length_nil, Nat.reduceAdd]; rfl)); refine nx ?_
            refine runs_seq ?_; refine sr ?_; refine o1 (mv ?_); refine o1 (ncb ?_); refine o1 (fdb ti76 ?_); refine o1 (ldb ti9 ?_); refine nx ?_; refine runs_block ?_; refine sr ?_; refine o1 (seq1 ?_); refine o1 (asg ?_); refine nx ?_
            refine cd (fun h10 => ?_) (fun h10 => ?_)
            · (try simp only [nrm, Int.reduceEq, Int.reduceNe, Int.reduceLT, Int.reduceLE] at h10); contradiction
            (try simp only [nrm, Int.reduceEq, Int.reduceNe, Int.reduceLT, Int.reduceLE] at h10); refine kp [20, 3, 2, 0] ?_; refine sr ?_; refine o1 (seq1 ?_); refine o1 (asg ?_); refine nx ?_; refine cdf (fun h12 => ?_) (fun h12 => ?_)
            · simp only [nrm, Int.reduceEq, Int.reduceNe, Int.reduceLT, Int.reduceLE] at h12
            (try simp only [nrm, Int.reduceEq, Int.reduceNe, Int.reduceLT, Int.reduceLE] at h12); refine runs_region ?_; refine o1 (fdb ti90 ?_); refine oc (sto ti3 ?_); refine ops_nil ?_; refine inb_normal ?_; refine seq_normal ?_
            refine kp [3, 2, 0] ?_; refine sr ?_; refine o1 (mv ?_); refine oc (ck ca55 rfl rfl (step_spec s hs (stepAt s (stepAt s p)) hl2.2 ⟨#[109, 97, 120]⟩ (tokR s (stepAt s p)).2.1) [0] rfl (boc .nil) (fir .nil) ?_); refine nx ?_
            refine runs_seq ?_; refine a_start ?_ (hm := by exact mixed); refine A1 0 rfl (fdb ti90 ⟨_, rfl, ?_⟩); refine A1 1 rfl (ldb ti26 ⟨_, rfl, ?_⟩); refine A1 2 rfl (mv ⟨_, rfl, ?_⟩)
            refine A2 3 rfl (op_callo ca61 rfl rfl rfl rfl (ih1) [0] (boc .nil) rfl rfl rfl rfl (fir .nil) (fun s ob' hq => ?_) (fun s ob' hq => ?_))
            rotate_left
            · obtain ⟨a, hfa, rfl, rfl⟩ := hq.pan
              refine ⟨_, _, _, _, _, rfl, rfl, rfl, rfl, rfl, ?_⟩; refine leave_d ([0]) ([.dead]) rfl rfl rfl (by repeat (first | exact boz | refine bod ?_)) ?_
              simp only at hfa; subst hfa; rw [levelR_some]; exact LvQ.bad takeR_some ⟨rfl, rfl⟩
            obtain ⟨hfa, rfl, rfl⟩ := hq.ret; simp only at hfa; subst hfa; refine ⟨_, _, _, _, _, rfl, rfl, rfl, rfl, rfl, ?_⟩
            refine A2 (T := fun _ => False) 4 rfl (op_lit sl26 [.tmp 37] ti90 rfl rfl rfl rfl rfl rfl rfl (by decide) (by decide) (by decide) (by simp only [List.length_cons, List.length_nil, Nat.reduceAdd]; rfl) rfl ?_)
            refine A2 (T := fun _ => False) 5 rfl (op_append_nil sl26 rfl rfl rfl rfl rfl rfl (by simp only [List.length_cons, List.length_nil, Nat.reduceAdd]; rfl) rfl rfl (by decide) (by simp) (by first | decide | (simp only [maxLen, List.length_cons, List.length_nil, List.length_append, List.length_map]; omega) | omega) rfl rfl rfl ?_)
            refine A1 6 rfl (fdb ti90 ⟨_, rfl, ?_⟩); refine A2 7 rfl (sto ti26 ?_); refine a_end ?_; refine seq_normal ?_; refine runs_seq ?_; refine kp [3, 2, 0] ?_; refine sr ?_; refine o1 (fdb ti90 ?_); refine o1 (ldb ti3 ?_); refine o1 (ine ?_)
            refine nx ?_; refine cdf (fun h18 => ?_) (fun h18 => ?_)
            · simp only [nrm, Int.reduceEq, Int.reduceNe, Int.reduceLT, Int.reduceLE] at h18
            (try simp only [nrm, Int.reduceEq, Int.reduceNe, Int.reduceLT, Int.reduceLE] at h18)
            have ih3 := ih2 (by omega)
            rcases hlb : levelR n s ⟨pa, none⟩ with ⟨lb, pb, fb⟩
            rw [hlb] at ih3 hle2
            obtain ⟨kb, nb, ab⟩ := lb
            simp only at hle2
            refine a_start ?_ (hm := by exact mixed); refine A1 0 rfl (fdb ti90 ⟨_, rfl, ?_⟩); refine A1 1 rfl (ldb ti26 ⟨_, rfl, ?_⟩); refine A1 2 rfl (mv ⟨_, rfl, ?_⟩)
            refine A2 3 rfl (op_callo ca61 rfl rfl rfl rfl (ih3) [0] (boc .nil) rfl rfl rfl rfl (fir .nil) (fun s ob' hq => ?_) (fun s ob' hq => ?_))
            rotate_left
            · obtain ⟨a, hfa, rfl, rfl⟩ := hq.pan
              refine ⟨_, _, _, _, _, rfl, rfl, rfl, rfl, rfl, ?_⟩; refine leave_d ([0]) ([.dead]) rfl rfl rfl (by repeat (first | exact boz | refine bod ?_)) ?_
              simp only at hfa; subst hfa; exact LvQ.bad takeR_some ⟨rfl, rfl⟩
            obtain ⟨hfb, rfl, rfl⟩ := hq.ret; simp only at hfb; subst hfb; refine ⟨_, _, _, _, _, rfl, rfl, rfl, rfl, rfl, ?_⟩
            refine A2 (T := fun _ => False) 4 rfl (op_lit sl26 [.tmp 47] ti90 rfl rfl rfl rfl rfl rfl rfl (by decide) (by decide) (by decide) (by simp only [List.length_cons, List.length_nil, Nat.reduceAdd]; rfl) rfl ?_)
            refine A2 5 rfl (op_append sl26 rfl rfl rfl rfl rfl rfl rfl (.inl rfl) (by decide) (by simp) (by first | decide | (simp only [maxLen, List.length_cons, List.length_nil, List.length_append, List.length_map]; omega) | omega) rfl rfl rfl ?_)
            refine A1 6 rfl (fdb ti90 ⟨_, rfl, ?_⟩); refine A2 7 rfl (sto ti26 ?_); refine a_end ?_; refine seq_normal ?_; refine kp [3, 2, 0] ?_; refine sr ?_; refine o1 (mv ?_)
            refine oc (op_callo ca59 rfl rfl rfl rfl (stake_spec s hs (stepAt s pb) (stepAt_le hle2.2).2 (stepTok s pb) ⟨#[41]⟩ (tokR s pb).2.1) [0] (boc .nil) rfl rfl rfl rfl (fir (fir .nil)) (fun s ob' hq => ?_) (fun s ob' hq => ?_))
            rotate_left
            · rcases hq with ⟨_, hq1, _⟩ | ⟨htk, hq1, rfl⟩
              · cases hq1
              cases hq1; refine ⟨_, _, _, _, _, rfl, rfl, rfl, rfl, rfl, ?_⟩; refine leave_d ([0]) ([.dead]) rfl rfl rfl (by repeat (first | exact boz | refine bod ?_)) ?_
              exact LvQ.bad (takeR_no fun e => htk ((step_is (by decide) (by decide)).2 e)) ⟨rfl, rfl⟩
            rcases hq with ⟨htk, hq1, rfl⟩ | ⟨_, hq1, _⟩
            rotate_left
            · cases hq1
            cases hq1; refine ⟨_, _, _, _, _, rfl, rfl, rfl, rfl, rfl, ?_⟩; refine nx ?_; refine sr ?_; refine o1 (ldb ti90 ?_); refine oc (sto ti90 ?_); refine nx ?_; refine runs_ret ?_; refine inb_ret ?_; refine seq_ret ?_; refine fin_ret ?_
            refine fin_odl ⟨_, _, rfl, (from_cell rfl rfl ti90 rfl rfl rfl rfl), rfl⟩ rfl ((Lvl.mk 2 .empty [.mk ka na aa, .mk kb nb ab]).d) (by exact .refl _) ([0]) ([scA s (stepAt s pb)]) rfl rfl rfl ?_ ?_
            · repeat (first | exact boz | refine boc ?_)
            · rw [takeR_yes (by decide) ((step_is (by decide) (by decide)).1 htk)]
              exact LvQ.ok rfl ⟨rfl, rfl⟩
          · rw [levelR_two c0 c1 c2 (by rw [e1]; simp only [hk]; decide) (by rw [e1]; simp only [hk]; decide), e1, e2, hk]
            have t2 : stepTok s (stepAt s p) = ⟨#[105, 109, 97, 120]⟩ := (step_is (by decide) (by decide)).2 (kind_three hk)
            rcases hla : levelR n s ⟨stepAt s (stepAt s p), none⟩ with ⟨la, pa, fa⟩
            rw [hla] at ih1 hle1
            obtain ⟨ka, na, aa⟩ := la
            simp only at hle1
            have ih2 := fun h => ih pa hle1.2 h
            have hle2 := levelR_le (s := s) n (r := ⟨pa, none⟩) hle1.2
            unfold scA scO
            unfold scA scO at ih1 ih2
            rw [ht]
            refine triS_of_runs Tryd.func61 rfl Tryd.ntmps61 (rs := [.cell 2 90]) rfl rfl rfl 1 rfl ?_
            refine sr ?_; refine oc (T := fun _ => False) (alc ti90 ?_ (hl := by simp only [List.length_cons, List.length_nil, Nat.reduceAdd]; rfl)); refine nx ?_; refine runs_seq ?_; refine sr ?_; refine o1 (mv ?_); refine o1 (ncb ?_)
            refine o1 (fdb ti76 ?_); refine o1 (ldb ti9 ?_); refine nx ?_; refine runs_block ?_; refine sr ?_; refine o1 (seq1 ?_); refine o1 (asg ?_); refine nx ?_; refine cd (fun h2 => ?_) (fun h2 => ?_)
            · (try simp only [nrm, Int.reduceEq, Int.reduceNe, Int.reduceLT, Int.reduceLE] at h2); contradiction
            (try simp only [nrm, Int.reduceEq, Int.reduceNe, Int.reduceLT, Int.reduceLE] at h2); refine kp [7, 2, 0] ?_; refine sr ?_; refine o1 (seq1 ?_); refine o1 (asg ?_); refine nx ?_; refine cdf (fun h5 => ?_) (fun h5 => ?_)
            · simp only [nrm, Int.reduceEq, Int.reduceNe, Int.reduceLT, Int.reduceLE] at h5
            (try simp only [nrm, Int.reduceEq, Int.reduceNe, Int.reduceLT, Int.reduceLE] at h5); refine sr ?_; refine o1 (mv ?_)
            refine oc (op_callo ca55 rfl rfl rfl rfl (step_spec s hs (stepAt s p) hsl.2 ⟨#[40]⟩ (tokR s p).2.1) [0] (boc .nil) rfl rfl rfl rfl (fir .nil) (fun s ob' hq => ?_) (fun s ob' hq => ?_))
            rotate_left
            · first | exact hq.elim | cases hq.1
            obtain ⟨hq1, rfl⟩ := hq; cases hq1
            unfold scO
            rw [t2]
            refine ⟨_, _, _, _, _, rfl, rfl, rfl, rfl, rfl, ?_⟩; refine nx ?_; refine kp [2, 0] ?_; refine sr ?_; refine oc (T := fun _ => False) (alc ti90 ?_ (hl := by simp only [List.length_cons, List.length_nil, Nat.reduceAdd]; rfl)); refine nx ?_
            refine runs_seq ?_; refine sr ?_; refine o1 (mv ?_); refine o1 (ncb ?_); refine o1 (fdb ti76 ?_); refine o1 (ldb ti9 ?_); refine nx ?_; refine runs_block ?_; refine sr ?_; refine o1 (seq1 ?_); refine o1 (asg ?_); refine nx ?_
            refine cd (fun h10 => ?_) (fun h10 => ?_)
            · (try simp only [nrm, Int.reduceEq, Int.reduceNe, Int.reduceLT, Int.reduceLE] at h10); contradiction
            (try simp only [nrm, Int.reduceEq, Int.reduceNe, Int.reduceLT, Int.reduceLE] at h10); refine kp [20, 3, 2, 0] ?_; refine sr ?_; refine o1 (seq1 ?_); refine o1 (asg ?_); refine nx ?_; refine cd (fun h12 => ?_) (fun h12 => ?_)
            · (try simp only [nrm, Int.reduceEq, Int.reduceNe, Int.reduceLT, Int.reduceLE] at h12); contradiction
            (try simp only [nrm, Int.reduceEq, Int.reduceNe, Int.reduceLT, Int.reduceLE] at h12); refine sr ?_; refine o1 (seq1 ?_); refine o1 (asg ?_); refine nx ?_; refine cdf (fun h14 => ?_) (fun h14 => ?_)
            · simp only [nrm, Int.reduceEq, Int.reduceNe, Int.reduceLT, Int.reduceLE] at h14
            (try simp only [nrm, Int.reduceEq, Int.reduceNe, Int.reduceLT, Int.reduceLE] at h14); refine kp [3, 2, 0] ?_; refine runs_region ?_; refine o1 (fdb ti90 ?_); refine oc (sto ti3 ?_); refine ops_nil ?_; refine inb_normal ?_
            refine seq_normal ?_; refine sr ?_; refine o1 (mv ?_); refine oc (ck ca55 rfl rfl (step_spec s hs (stepAt s (stepAt s p)) hl2.2 ⟨#[105, 109, 97, 120]⟩ (tokR s (stepAt s p)).2.1) [0] rfl (boc .nil) (fir .nil) ?_); refine nx ?_
            refine runs_seq ?_; refine a_start ?_ (hm := by exact mixed); refine A1 0 rfl (fdb ti90 ⟨_, rfl, ?_⟩); refine A1 1 rfl (ldb ti26 ⟨_, rfl, ?_⟩); refine A1 2 rfl (mv ⟨_, rfl, ?_⟩)
            refine A2 3 rfl (op_callo ca61 rfl rfl rfl rfl (ih1) [0] (boc .nil) rfl rfl rfl rfl (fir .nil) (fun s ob' hq => ?_) (fun s ob' hq => ?_))
            rotate_left
            · obtain ⟨a, hfa, rfl, rfl⟩ := hq.pan
              refine ⟨_, _, _, _, _, rfl, rfl, rfl, rfl, rfl, ?_⟩; refine leave_d ([0]) ([.dead]) rfl rfl rfl (by repeat (first | exact boz | refine bod ?_)) ?_
              simp only at hfa; subst hfa; rw [levelR_some]; exact LvQ.bad takeR_some ⟨rfl, rfl⟩
            obtain ⟨hfa, rfl, rfl⟩ := hq.ret; simp only at hfa; subst hfa; refine ⟨_, _, _, _, _, rfl, rfl, rfl, rfl, rfl, ?_⟩
            refine A2 (T := fun _ => False) 4 rfl (op_lit sl26 [.tmp 37] ti90 rfl rfl rfl rfl rfl rfl rfl (by decide) (by decide) (by decide) (by simp only [List.length_cons, List.length_nil, Nat.reduceAdd]; rfl) rfl ?_)
            refine A2 (T := fun _ => False) 5 rfl (op_append_nil sl26 rfl rfl rfl rfl rfl rfl (by simp only [List.length_cons, List.length_nil, Nat.reduceAdd]; rfl) rfl rfl (by decide) (by simp) (by first | decide | (simp only [maxLen, List.length_cons, List.length_nil, List.length_append, List.length_map]; omega) | omega) rfl rfl rfl ?_)
            refine A1 6 rfl (fdb ti90 ⟨_, rfl, ?_⟩); refine A2 7 rfl (sto ti26 ?_); refine a_end ?_; refine seq_normal ?_; refine runs_seq ?_; refine kp [3, 2, 0] ?_; refine sr ?_; refine o1 (fdb ti90 ?_); refine o1 (ldb ti3 ?_); refine o1 (ine ?_)
            refine nx ?_; refine cdf (fun h18 => ?_) (fun h18 => ?_)
            · simp only [nrm, Int.reduceEq, Int.reduceNe, Int.reduceLT, Int.reduceLE] at h18
            (try simp only [nrm, Int.reduceEq, Int.reduceNe, Int.reduceLT, Int.reduceLE] at h18)
            have ih3 := ih2 (by omega)
            rcases hlb : levelR n s ⟨pa, none⟩ with ⟨lb, pb, fb⟩
            rw [hlb] at ih3 hle2
            obtain ⟨kb, nb, ab⟩ := lb
            simp only at hle2
            refine a_start ?_ (hm := by exact mixed); refine A1 0 rfl (fdb ti90 ⟨_, rfl, ?_⟩); refine A1 1 rfl (ldb ti26 ⟨_, rfl, ?_⟩); refine A1 2 rfl (mv ⟨_, rfl, ?_⟩)
            refine A2 3 rfl (op_callo ca61 rfl rfl rfl rfl (ih3) [0] (boc .nil) rfl rfl rfl rfl (fir .nil) (fun s ob' hq => ?_) (fun s ob' hq => ?_))
            rotate_left
            · obtain ⟨a, hfa, rfl, rfl⟩ := hq.pan
              refine ⟨_, _, _, _, _, rfl, rfl, rfl, rfl, rfl, ?_⟩; refine leave_d ([0]) ([.dead]) rfl rfl rfl (by repeat (first | exact boz | refine bod ?_)) ?_
              simp only at hfa; subst hfa; exact LvQ.bad takeR_some ⟨rfl, rfl⟩
            obtain ⟨hfb, rfl, rfl⟩ := hq.ret; simp only at hfb; subst hfb; refine ⟨_, _, _, _, _, rfl, rfl, rfl, rfl, rfl, ?_⟩
            refine A2 (T := fun _ => False) 4 rfl (op_lit sl26 [.tmp 47] ti90 rfl rfl rfl rfl rfl rfl rfl (by decide) (by decide) (by decide) (by simp only [List.length_cons, List.length_nil, Nat.reduceAdd]; rfl) rfl ?_)
            refine A2 5 rfl (op_append sl26 rfl rfl rfl rfl rfl rfl rfl (.inl rfl) (by decide) (by simp) (by first | decide | (simp only [maxLen, List.length_cons, List.length_nil, List.length_append, List.length_map]; omega) | omega) rfl rfl rfl ?_)
            refine A1 6 rfl (fdb ti90 ⟨_, rfl, ?_⟩); refine A2 7 rfl (sto ti26 ?_); refine a_end ?_; refine seq_normal ?_; refine kp [3, 2, 0] ?_; refine sr ?_; refine o1 (mv ?_)
            refine oc (op_callo ca59 rfl rfl rfl rfl (stake_spec s hs (stepAt s pb) (stepAt_le hle2.2).2 (stepTok s pb) ⟨#[41]⟩ (tokR s pb).2.1) [0] (boc .nil) rfl rfl rfl rfl (fir (fir .nil)) (fun s ob' hq => ?_) (fun s ob' hq => ?_))
            rotate_left
            · rcases hq with ⟨_, hq1, _⟩ | ⟨htk, hq1, rfl⟩
              · cases hq1
              cases hq1; refine ⟨_, _, _, _, _, rfl, rfl, rfl, rfl, rfl, ?_⟩; refine leave_d ([0]) ([.dead]) rfl rfl rfl (by repeat (first | exact boz | refine bod ?_)) ?_
              exact LvQ.bad (takeR_no fun e => htk ((step_is (by decide) (by decide)).2 e)) ⟨rfl, rfl⟩
            rcases hq with ⟨htk, hq1, rfl⟩ | ⟨_, hq1, _⟩
            rotate_left
            · cases hq1
            cases hq1; refine ⟨_, _, _, _, _, rfl, rfl, rfl, rfl, rfl, ?_⟩; refine nx ?_; refine sr ?_; refine o1 (ldb ti90 ?_); refine oc (sto ti90 ?_); refine nx ?_; refine runs_ret ?_; refine inb_ret ?_; refine seq_ret ?_; refine fin_ret ?_
            refine fin_odl ⟨_, _, rfl, (from_cell rfl rfl ti90 rfl rfl rfl rfl), rfl⟩ rfl ((Lvl.mk 3 .empty [.mk ka na aa, .mk kb nb ab]).d) (by exact .refl _) ([0]) ([scA s (stepAt s pb)]) rfl rfl rfl ?_ ?_
            · repeat (first | exact boz | refine boc ?_)
            · rw [takeR_yes (by decide) ((step_is (by decide) (by decide)).1 htk)]
              exact LvQ.ok rfl ⟨rfl, rfl⟩
      · have c2' : ¬ stepTok s p = ⟨#[40]⟩ := fun e => c2 ((step_is (by decide) (by decide)).1 e)
        rw [levelR_else c0 c1 c2]
        rw [← step_isName] at c1
        unfold scA scO
        refine triS_of_runs Tryd.func61 rfl Tryd.ntmps61 (rs := [.cell 2 90]) rfl rfl rfl 1 rfl ?_
        refine sr ?_; refine oc (T := fun _ => False) (alc ti90 ?_ (hl := by simp only [List.length_cons, List.length_nil, Nat.reduceAdd]; rfl)); refine nx ?_; refine runs_seq ?_; refine sr ?_; refine o1 (mv ?_); refine o1 (ncb ?_)
        refine o1 (fdb ti76 ?_); refine o1 (ldb ti9 ?_); refine nx ?_; refine runs_block ?_; refine sr ?_; refine o1 (seq1 ?_); refine o1 (asg ?_); refine nx ?_; refine cd (fun h2 => ?_) (fun h2 => ?_)
        · (try simp only [nrm, Int.reduceEq, Int.reduceNe, Int.reduceLT, Int.reduceLE] at h2); contradiction
        (try simp only [nrm, Int.reduceEq, Int.reduceNe, Int.reduceLT, Int.reduceLE] at h2); refine kp [7, 2, 0] ?_; refine sr ?_; refine o1 (seq1 ?_); refine o1 (asg ?_); refine nx ?_; refine cd (fun h5 => ?_) (fun h5 => ?_)
        · (try simp only [nrm, Int.reduceEq, Int.reduceNe, Int.reduceLT, Int.reduceLE] at h5); contradiction
        (try simp only [nrm, Int.reduceEq, Int.reduceNe, Int.reduceLT, Int.reduceLE] at h5); refine runs_skip ?_; refine inb_normal ?_; refine seq_normal ?_; refine sr ?_; refine o1 (mv ?_)
        refine oc (op_callo ca62 rfl rfl rfl rfl (name_bad s (stepAt s p) (stepTok s p) (tokR s p).2.1 c1) [0] (boc .nil) rfl rfl rfl rfl (fir .nil) (fun s ob' hq => ?_) (fun s ob' hq => ?_))
        · cases hq.1
        obtain ⟨hq1, rfl⟩ := hq; cases hq1; refine ⟨_, _, _, _, _, rfl, rfl, rfl, rfl, rfl, ?_⟩; refine leave_d ([0]) ([.dead]) rfl rfl rfl (by repeat (first | exact boz | refine bod ?_)) ?_; exact LvQ.bad (a := (tokR s p).2.1) rfl ⟨rfl, rfl⟩
end Go.Proofs.YtneaancanfpdhaaDoor
namespace Go.Proofs.YtneaancanfpdhaaDoor
open Go Go.Vd Go.RowKit
attribute [local irreducible] Runs OpsR OpR FloatR AnyR AnyO
variable {g gl : Nat → List D}

/-- does the token begin with #? -/
def hashB (t : ByteArray) : Bool := decide (t ≠ .empty) && decide (byteAt t 0 = 35)
theorem hash_pre (t : ByteArray) : (1 ≤ t.size ∧ t.extract 0 1 = ⟨#[35]⟩) ↔ hashB t = true := by
  unfold hashB
  simp only [Bool.and_eq_true, decide_eq_true_eq]
  constructor
  · rintro ⟨h1, h2⟩
    refine ⟨fun e => by subst e; simp at h1, ?_⟩
    have h3 : byteAt (t.extract 0 1) 0 = byteAt t 0 := by rw [byteAt_extract t (by omega) h1]
    rw [← h3, h2]; rfl
  · rintro ⟨h1, h2⟩
    have h3 := size_pos h1
    refine ⟨h3, byteAt_inj (by rw [ByteArray.size_extract]; have : (ByteArray.mk #[35]).size = 1 := rfl; omega) fun i hi => ?_⟩
    rw [ByteArray.size_extract] at hi
    obtain rfl : i = 0 := by omega
    rw [byteAt_extract t (by omega) h3, Nat.zero_add, h2]; rfl

theorem hash_pre2 (t : ByteArray) : (decide (((ByteArray.mk #[35]).size : Int) ≤ (t.size : Int)) && decide (t.extract 0 (((ByteArray.mk #[35]).size : Nat) : Int).toNat = ⟨#[35]⟩)) = hashB t := by
  rw [Bool.eq_iff_iff, ← hash_pre, Bool.and_eq_true, decide_eq_true_eq, decide_eq_true_eq]
  show ((1 : Int) ≤ t.size ∧ t.extract 0 1 = _) ↔ _
  exact ⟨fun h => ⟨by omega, h.2⟩, fun h => ⟨by omega, h.2⟩⟩
theorem hasPrefix_spec (t : ByteArray) : TriD Tryd.prog gl 81 [.v (.string t), .v (.string ⟨#[35]⟩)] (· = .v (.bool (hashB t))) := by
  have h1s : (ByteArray.mk #[35]).size = 1 := rfl
  refine triD_of_runs Tryd.func81 rfl Tryd.ntmps81 (rs := [.tmp 4]) rfl rfl rfl ?_
  refine sr ?_; refine o1 (asg ?_); refine nx ?_; refine sr ?_; refine o1 (mv ?_); refine o1 (le3 ut9 ?_); refine o1 (mv ?_); refine o1 (le3 ut9 ?_); refine o1 (ige ?_); refine o1 (mv ?_)
  apply ops_and (yt := 16) (d := 10) 6 rfl rfl rfl (.none rfl) rfl rfl
  case h1 =>
    intro hb11 hK
    have hc := hb11; (try simp only [nrm, Int.reduceEq, Int.reduceNe, Int.reduceLT, Int.reduceLE] at hc)
    refine gye ?_ (hbw := by exact hb11); refine o1 (mv ?_); refine gye ?_ (hbw := by exact hb11); refine o1 (mv ?_); refine gye ?_ (hbw := by exact hb11); refine o1 (le3 ut9 ?_); refine gye ?_ (hbw := by exact hb11)
    refine o1 (fl_sub_h ut9 rfl rfl rfl (by omega) ?_); refine gye ?_ (hbw := by exact hb11); refine o1 (mv ?_); refine gye ?_ (hbw := by exact hb11); refine o1 (seq1 ?_); exact hK [_, _, _, _, _, _] rfl rfl
  case h2 =>
    intro hb11 hK; refine gno ?_ (hbw := by exact hb11); refine gno ?_ (hbw := by exact hb11); refine gno ?_ (hbw := by exact hb11); refine gno ?_ (hbw := by exact hb11); refine gno ?_ (hbw := by exact hb11); refine gno ?_ (hbw := by exact hb11)
    exact hK [_, _, _, _, _, _] rfl
  refine o1 (asg ?_); refine nx ?_; refine runs_ret ?_; refine fin_ret ?_; refine fin_d1 rfl rfl ?_
  rw [hash_pre2]
theorem cutLite_spec (t : ByteArray) : TriD Tryd.prog gl 75 [.v (.string t), .v (.string ⟨#[35]⟩)] (· = .tup [.v (.string (if hashB t then t.extract 1 t.size else t)), .v (.bool (hashB t))]) := by
  have h1s : (ByteArray.mk #[35]).size = 1 := rfl
  have hp := hash_pre t
  refine triD_of_runs Tryd.func75 rfl Tryd.ntmps75 (rs := [.tmp 4, .tmp 5]) rfl rfl rfl ?_
  refine sr ?_; refine o1 (asg ?_); refine o1 (asg ?_); refine nx ?_; refine runs_seq ?_; refine sr ?_; refine o1 (mv ?_); refine o1 (mv ?_); refine oc (cv ca81 rfl rfl (hasPrefix_spec t) (fir (fir .nil)) ?_); refine o1 (f_not ?_)
  refine nx ?_; refine cd (fun h1 => ?_) (fun h1 => ?_)
  · (try simp only [nrm, Int.reduceEq, Int.reduceNe, Int.reduceLT, Int.reduceLE] at h1)
    refine kp [0] ?_; refine sr ?_; refine o1 (mv ?_); refine o1 (asg ?_); refine o1 (asg ?_); refine nx ?_; refine runs_ret ?_; refine seq_ret ?_; refine fin_ret ?_; refine fin_d2 rfl rfl rfl ?_
    rw [h1]; rfl
  (try simp only [nrm, Int.reduceEq, Int.reduceNe, Int.reduceLT, Int.reduceLE] at h1); refine runs_skip ?_; refine seq_normal ?_; refine runs_seq ?_; refine kp [0, 1] ?_
  have hp1 := (hp.2 h1).1
  refine runs_region ?_; refine o1 (mv ?_); refine o1 (mv ?_); refine o1 (le3 ut9 ?_); refine o1 (fl_sub_l ut9 rfl rfl rfl (by omega) ?_); refine o1 (asg ?_); refine o1 (asg ?_); refine nx ?_; refine runs_ret ?_; refine fin_ret ?_
  refine fin_d2 rfl rfl rfl ?_
  rw [h1]; rfl
theorem cut_spec (t : ByteArray) : TriD Tryd.prog gl 56 [.v (.string t), .v (.string ⟨#[35]⟩)] (· = .tup [.v (.string (if hashB t then t.extract 1 t.size else t)), .v (.bool (hashB t))]) := by
  refine triD_of_runs Tryd.func56 rfl Tryd.ntmps56 (rs := [.tmp 4, .tmp 5]) rfl rfl rfl ?_
  refine sr ?_; refine o1 (asg ?_); refine o1 (asg ?_); refine nx ?_; refine sr ?_; refine o1 (mv ?_); refine o1 (mv ?_); refine oc (cv ca75 rfl rfl (cutLite_spec t) (fir (fir .nil)) ?_); refine o1 (ex2 ?_); refine o1 (ex2 ?_)
  refine o1 (asg ?_); refine o1 (asg ?_); refine nx ?_; refine runs_ret ?_; refine fin_ret ?_; refine fin_d2 rfl rfl rfl ?_
  rfl

theorem atoiIn_spec (t : ByteArray) (h1 : 1 ≤ t.size) (h5 : t.size ≤ 5) (hd : allDig t) : TriD Tryd.prog gl 76 [.v (.string t)] (· = .tup [.v (.int .i64 (numR t t.size)), .v .nilIface]) := by
  have hd0 := hd 0 (by omega)
  have hbl := bytesD_len t
  refine triD_of_runs Tryd.func76 rfl Tryd.ntmps76 (rs := [.tmp 2, .tmp 3]) rfl rfl rfl ?_
  refine sr ?_; refine o1 (asg ?_); refine o1 (asg ?_); refine nx ?_; refine sr ?_; refine o1 (mv ?_); refine o1 (le3 ut9 ?_); refine o1 (asg ?_); refine nx ?_; refine runs_seq ?_; refine kp [4, 0] ?_; refine sr ?_; refine o1 (mv ?_)
  refine ops_set 13 false rfl (by simp) ?_; refine gno ?_ (hbw := by exact rfl); refine gno ?_ (hbw := by exact rfl); refine gno ?_ (hbw := by exact rfl); refine gud ?_; refine gud ?_; refine gno ?_ (hbw := by exact rfl)
  refine o1 (f_pick_f ?_); refine o1 (mv ?_); refine ops_set 21 false rfl (by simp) ?_; refine gye ?_ (hbw := by exact rfl); refine o1 (mv ?_); refine ops_set 22 true rfl (by simp) ?_; refine gye ?_ (hbw := by exact rfl); refine o1 (mv ?_)
  refine gye ?_ (hbw := by exact rfl); refine o1 (ilt ?_); refine gye ?_ (hbw := by exact rfl); refine o1 (mv ?_); refine ops_set 25 true rfl (by simp; omega) ?_; refine gye ?_ (hbw := by exact rfl); refine o1 (mv ?_)
  refine gye ?_ (hbw := by exact rfl); refine o1 (ilt ?_); refine gye ?_ (hbw := by exact rfl); refine o1 (f_pick_t ?_); refine gye ?_ (hbw := by exact rfl); refine o1 (f_pick_t ?_); refine o1 (f_pick_f ?_); refine nx ?_
  refine cdf (fun h2 => ?_) (fun h2 => ?_)
  · (try simp only [nrm, Int.reduceEq, Int.reduceNe, Int.reduceLT, Int.reduceLE] at h2); omega
  (try simp only [nrm, Int.reduceEq, Int.reduceNe, Int.reduceLT, Int.reduceLE] at h2); refine kp [0] ?_; refine sr ?_; refine o1 (mv ?_); refine o1 (asg ?_); refine nx ?_; refine runs_seq ?_; refine sr ?_; refine o1 (mv ?_)
  refine o1 (byt ut9 ?_); refine o1 (ieq ?_); refine o1 (mv ?_)
  apply ops_or (yt := 38) (d := 35) 3 rfl rfl rfl (.none rfl) rfl rfl
  case h1 =>
    intro hb6 hK
    have hc := hb6; (try simp only [nrm, Int.reduceEq, Int.reduceNe, Int.reduceLT, Int.reduceLE] at hc)
    refine gye ?_ (hbw := by exact hb6); refine o1 (mv ?_); refine gye ?_ (hbw := by exact hb6); refine o1 (byt ut9 ?_); refine gye ?_ (hbw := by exact hb6); refine o1 (ieq ?_); exact hK [_, _, _] rfl rfl
  case h2 =>
    intro hb6 hK; refine gno ?_ (hbw := by exact hb6); refine gno ?_ (hbw := by exact hb6); refine gno ?_ (hbw := by exact hb6); exact hK [_, _, _] rfl
  refine nx ?_; refine cd (fun h4 => ?_) (fun h4 => ?_)
  · (try simp only [nrm, Int.reduceEq, Int.reduceNe, Int.reduceLT, Int.reduceLE] at h4); exfalso; have h0 : byteAt t (Int.toNat 0) = byteAt t 0 := rfl; rcases h4 with h | h <;> omega
  (try simp only [nrm, Int.reduceEq, Int.reduceNe, Int.reduceLT, Int.reduceLE] at h4); refine runs_skip ?_; refine seq_normal ?_; refine kp [5, 0] ?_; refine sr ?_; refine o1 (asg ?_); refine nx ?_; refine runs_seq ?_; refine sr ?_
  refine o1 (mv ?_); refine oc (T := fun _ => False) (op_bytes ut9 sl59 ui5 rfl rfl rfl rfl rfl ?_); refine o1 (le1 us59 ?_); refine o1 (mv ?_); refine nx ?_; refine runs_block ?_; refine kp [49, 48, 47, 6, 5] ?_
  apply runs_loop_c (ι := Nat) (fun i => [(49, int i), (6, int (numR t i))]) [48, 47, 5] (fun i => i ≤ t.size) (fun i => t.size - i) (0)
  case hk => exact rfl
  case hI =>
    exact Nat.zero_le _
  case hm =>
    refine mo ?_ (sly (sly (sly (sly (sly slz)))))
    repeat (first | exact boz | refine bod ?_)
  case h =>
    rintro i hinv
    try dsimp only at hinv
    refine kp [49, 6, 48, 47, 5] ?_; refine sr ?_; refine o1 (ilt ?_); refine nx ?_; refine runs_seq ?_; refine cdf (fun h10 => ?_) (fun h10 => ?_)
    · (try simp only [nrm, Int.reduceEq, Int.reduceNe, Int.reduceLT, Int.reduceLE] at h10)
      refine runs_exit ?_; refine seq_exit ?_; refine seq_exit ?_; refine inb_exit ?_; refine seq_normal ?_; refine runs_seq ?_; refine kp [6, 5] ?_; refine sr ?_; refine o1 (mv ?_); refine o1 (byt ut9 ?_); refine o1 (ieq ?_); refine nx ?_
      refine cd (fun h17 => ?_) (fun h17 => ?_)
      · (try simp only [nrm, Int.reduceEq, Int.reduceNe, Int.reduceLT, Int.reduceLE] at h17); omega
      (try simp only [nrm, Int.reduceEq, Int.reduceNe, Int.reduceLT, Int.reduceLE] at h17); refine runs_skip ?_; refine seq_normal ?_; refine kp [6] ?_; refine sr ?_; refine o1 (mv ?_); refine o1 (asg ?_); refine o1 (asg ?_); refine nx ?_
      refine runs_ret ?_; refine seq_ret ?_; refine fin_ret ?_; refine fin_d2 rfl rfl rfl ?_
      have hi : i = t.size := by omega
      subst hi
      rfl
    (try simp only [nrm, Int.reduceEq, Int.reduceNe, Int.reduceLT, Int.reduceLE] at h10); refine runs_skip ?_; refine seq_normal ?_; refine runs_seq ?_; refine runs_block ?_; refine runs_seq ?_
    have hdi := hd i (by omega)
    have hnb := numR_bound hd i (by omega) (by omega)
    have hs8 := sub8_digit hdi
    have hw : IntKind.wrap .i64 (sub8 (byteAt t i) 48) = byteAt t i - 48 := by rw [sub8_digit hdi]; exact wrap_digit (by omega)
    refine runs_region ?_; refine o1 (ixs us59 te59 ?_ (he := by exact (byte_at (show i < t.size by omega)))); refine o1 (ldc ti5 ?_); refine o1 (asg ?_); refine nx ?_; refine sr ?_; refine o1 (mv ?_); refine o1 (fl_sub8 rfl rfl rfl ?_)
    refine o1 (asg ?_); refine nx ?_; refine runs_seq ?_; refine kp [8, 49, 6, 48, 47, 5] ?_; refine sr ?_; refine o1 (mv ?_); refine o1 (igt ?_); refine nx ?_; refine cd (fun h13 => ?_) (fun h13 => ?_)
    · (try simp only [nrm, Int.reduceEq, Int.reduceNe, Int.reduceLT, Int.reduceLE] at h13); omega
    (try simp only [nrm, Int.reduceEq, Int.reduceNe, Int.reduceLT, Int.reduceLE] at h13); refine runs_skip ?_; refine seq_normal ?_; refine runs_region ?_; refine o1 (mv ?_); refine o1 (fl_mul rfl rfl rfl (by omega) ?_); refine o1 (mv ?_)
    refine o1 (fl_conv ui3 uo5 rfl rfl ?_); refine o1 (iad ?_); refine o1 (asg ?_); refine ops_nil ?_; refine inb_normal ?_; refine seq_normal ?_; refine kp [6, 49, 48, 47, 5] ?_; refine runs_region ?_; refine o1 (iad ?_); refine o1 (mv ?_)
    refine ops_nil ?_; refine seq_back ?_; refine back_i (i + 1) rfl ?_ ?_
    · exact ⟨by omega, by omega⟩
    · refine mo ?_ (sly (slx rfl (by exact Fit.of_eq (by rw [hw]; simp only [numR]; rw [Int.mul_comm]; rfl)) (sly (sly (sly slz)))))
      repeat (first | exact boz | refine bod ?_)
theorem atoi_spec (t : ByteArray) (h1 : 1 ≤ t.size) (h5 : t.size ≤ 5) (hd : allDig t) : TriD Tryd.prog gl 57 [.v (.string t)] (· = .tup [.v (.int .i64 (numR t t.size)), .v .nilIface]) := by
  refine triD_of_runs Tryd.func57 rfl Tryd.ntmps57 (rs := [.tmp 2, .tmp 3]) rfl rfl rfl ?_
  refine sr ?_; refine o1 (asg ?_); refine o1 (asg ?_); refine nx ?_; refine sr ?_; refine o1 (mv ?_); refine oc (cv ca76 rfl rfl (atoiIn_spec t h1 h5 hd) (fir .nil) ?_); refine o1 (mv ?_); refine o1 (ex2 ?_); refine o1 (ex2 ?_)
  refine o1 (asg ?_); refine o1 (asg ?_); refine nx ?_; refine runs_seq ?_; refine kp [5, 4, 0] ?_; refine sr ?_; refine o1 (mv ?_); refine o1 (f_ineq_nil ii40 ?_); refine nx ?_; refine cd (fun h2 => ?_) (fun h2 => ?_)
  · simp only [nrm, Int.reduceEq, Int.reduceNe, Int.reduceLT, Int.reduceLE] at h2
  (try simp only [nrm, Int.reduceEq, Int.reduceNe, Int.reduceLT, Int.reduceLE] at h2); refine runs_skip ?_; refine seq_normal ?_; refine kp [4] ?_; refine sr ?_; refine o1 (mv ?_); refine o1 (asg ?_); refine o1 (asg ?_); refine nx ?_
  refine runs_ret ?_; refine fin_ret ?_; refine fin_d2 rfl rfl rfl ?_
  rfl
end Go.Proofs.YtneaancanfpdhaaDoor
namespace Go.Proofs.YtneaancanfpdhaaDoor
open Go Go.Vd Go.RowKit
attribute [local irreducible] Runs OpsR OpR FloatR AnyR
variable {gl : Nat → List D}

/-- the place of a text, or -1 -/
def idxI (ps : List ByteArray) (s : ByteArray) : Int := match ps.findIdx? (· = s) with
  | some i => i
  | none => -1
theorem idxI_some {ps : List ByteArray} {s : ByteArray} {i : Nat} (h : i < ps.length) (h1 : s ∉ ps.take i) (h2 : ps[i] = s) : idxI ps s = i := by
  unfold idxI; rw [findIdx_some h h1 h2]
theorem idxI_none {ps : List ByteArray} {s : ByteArray} (h : s ∉ ps) : idxI ps s = -1 := by
  unfold idxI; rw [findIdx_none h]
theorem idxI_case (ps : List ByteArray) (s : ByteArray) : (s ∉ ps ∧ idxI ps s = -1) ∨ ∃ i, ∃ h : i < ps.length, s ∉ ps.take i ∧ ps[i] = s ∧ idxI ps s = i := by
  by_cases hm : s ∈ ps
  · right
    have h0 : (ps.findIdx? (· = s)).isSome = true := by rw [List.findIdx?_isSome]; simpa using hm
    obtain ⟨i, hi⟩ := Option.isSome_iff_exists.1 h0
    obtain ⟨h1, h2, h3⟩ := List.findIdx?_eq_some_iff_getElem.1 hi
    refine ⟨i, h1, fun hc => ?_, by simpa using h2, by unfold idxI; rw [hi]⟩
    obtain ⟨j, hj, e⟩ := List.mem_iff_getElem.1 hc
    simp only [List.length_take] at hj
    have := h3 j (by omega)
    simp only [List.getElem_take] at e
    simp [e] at this
  · exact .inl ⟨hm, idxI_none hm⟩

theorem index_spec (ps : List ByteArray) (s : ByteArray) (hl : ps.length ≤ 281474976710656) :
    TriD Tryd.prog gl 60 [strsD ps, .v (.string s)] (· = .v (.int .i64 (idxI ps s))) := by
  have hlp := strs_len ps
  refine triD_of_runs Tryd.func60 rfl Tryd.ntmps60 (rs := [.tmp 4]) rfl rfl rfl ?_
  refine sr ?_; refine o1 (asg ?_); refine nx ?_; refine runs_seq ?_; refine sr ?_; refine o1 (mv ?_); refine o1 (le1 us77 ?_); refine o1 (mv ?_); refine nx ?_; refine runs_block ?_; refine kp [8, 7, 0, 1] ?_
  apply runs_loop_c (ι := Nat) (fun i => [(8, int i)]) [7, 0, 1] (fun i => i ≤ ps.length ∧ s ∉ ps.take i) (fun i => ps.length - i) (0)
  case hk => exact rfl
  case hI =>
    exact ⟨Nat.zero_le _, by simp⟩
  case hm =>
    refine mo ?_ (sly (sly (sly (sly slz)))); exact boz
  case h =>
    rintro i hinv
    try dsimp only at hinv
    refine kp [8, 7, 0, 1] ?_; refine sr ?_; refine o1 (ilt ?_); refine nx ?_; refine runs_seq ?_; refine cdf (fun h2 => ?_) (fun h2 => ?_)
    · (try simp only [nrm, Int.reduceEq, Int.reduceNe, Int.reduceLT, Int.reduceLE] at h2)
      refine runs_exit ?_; refine seq_exit ?_; refine seq_exit ?_; refine inb_exit ?_; refine seq_normal ?_; refine kp [] ?_; refine sr ?_; refine o1 (asg ?_); refine nx ?_; refine runs_ret ?_; refine fin_ret ?_; refine fin_d1 rfl rfl ?_
      have h := hinv.2
      rw [List.take_of_length_le (by omega)] at h
      rw [idxI_none h]
    (try simp only [nrm, Int.reduceEq, Int.reduceNe, Int.reduceLT, Int.reduceLE] at h2); refine runs_skip ?_; refine seq_normal ?_; refine runs_seq ?_; refine runs_block ?_; refine sr ?_; refine o1 (mv ?_); refine o1 (asg ?_); refine nx ?_
    refine sr ?_; refine o1 (mv ?_); refine o1 (mv ?_); refine o1 (mv ?_); refine o1 (ixs us77 te77 ?_ (he := by exact (str_at (by omega)))); refine o1 (ldc ti9 ?_); refine o1 (seq1 ?_); refine nx ?_; refine cd (fun h4 => ?_) (fun h4 => ?_)
    · (try simp only [nrm, Int.reduceEq, Int.reduceNe, Int.reduceLT, Int.reduceLE] at h4)
      refine kp [5] ?_; refine sr ?_; refine o1 (mv ?_); refine o1 (asg ?_); refine nx ?_; refine runs_ret ?_; refine inb_ret ?_; refine seq_ret ?_; refine seq_ret ?_; refine inb_ret ?_; refine seq_ret ?_; refine fin_ret ?_
      refine fin_d1 rfl rfl ?_
      rw [idxI_some (show i < ps.length by omega) hinv.2 h4.symm]
    (try simp only [nrm, Int.reduceEq, Int.reduceNe, Int.reduceLT, Int.reduceLE] at h4); refine runs_skip ?_; refine inb_normal ?_; refine seq_normal ?_; refine kp [8, 7, 0, 1] ?_; refine runs_region ?_; refine o1 (iad ?_); refine o1 (mv ?_)
    refine ops_nil ?_; refine seq_back ?_; refine back_i (i + 1) rfl ?_ ?_
    · exact ⟨⟨by omega, not_mem_take_succ (by omega) hinv.2 (fun e => h4 e.symm)⟩, by omega⟩
    · refine mo ?_ (sly (sly (sly (sly slz))))
      exact boz

end Go.Proofs.YtneaancanfpdhaaDoor
namespace Go.Proofs.YtneaancanfpdhaaDoor
open Go Go.Vd Go.RowKit
attribute [local irreducible] Runs OpsR OpR FloatR AnyR AnyO
variable {g gl : Nat → List D}

theorem idx_kind (w : ByteArray) : idxI (wordsT.drop 1) w + 1 = kindT w := by
  have hl : wordsT.length = 7 := rfl
  rcases idxI_case (wordsT.drop 1) w with ⟨h1, h2⟩ | ⟨i, h0, _, h2, h3⟩
  · rw [h2]
    have h4 := kindT_le w
    rcases Nat.eq_zero_or_pos (kindT w) with h5 | h5
    · rw [h5]; rfl
    · exfalso
      have h6 := (kindT_word (w := w) (i := kindT w) h5 (by omega)).2 rfl
      apply h1
      rw [← h6]
      have h7 : 1 + (kindT w - 1) = kindT w := by omega
      exact List.mem_iff_getElem.2 ⟨kindT w - 1, by rw [List.length_drop]; omega, by simp only [List.getElem_drop, h7]⟩
  · rw [h3]
    simp only [List.length_drop] at h0
    have h4 : wordsT[i + 1] = w := by simp only [List.getElem_drop, Nat.add_comm 1 i] at h2; exact h2
    rw [(kindT_word (by omega) (by omega)).1 h4]; rfl
theorem kindT_emp : kindT .empty = 0 ∧ kindT ⟨#[0]⟩ = 0 := by decide
theorem step_kind {s : ByteArray} {p : Nat} : kindT (stepTok s p) = kindT (tokR s p).1 := by
  by_cases h : (tokR s p).1 = .empty
  · rw [h, kindT_emp.1]
    rcases step_emp h with h3 | h3 <;> rw [h3]
    · exact kindT_emp.1
    · exact kindT_emp.2
  · rw [(step_tok h).1]
theorem step_hash {s : ByteArray} {p : Nat} : hashB (stepTok s p) = hashB (tokR s p).1 := by
  by_cases h : (tokR s p).1 = .empty
  · rw [h]
    rcases step_emp h with h3 | h3 <;> rw [h3]
    decide
  · rw [(step_tok h).1]

/-- what term.Read does, by what the reference's reader reads -/
def TrQ (s : ByteArray) (r : Trm × RS) (out : Out) (ob' : List Ob) : Prop :=
  (r.2.f = none → out = .ret (.d r.1.d) ∧ ob' = [scA s r.2.p]) ∧ (∀ a, r.2.f = some a → out = .pan (.d (fltD 1 a)) ∧ ob' = [.dead])
theorem TrQ.ok {s : ByteArray} {r : Trm × RS} {out : Out} {ob' : List Ob} (hf : r.2.f = none) (h : out = .ret (.d r.1.d) ∧ ob' = [scA s r.2.p]) : TrQ s r out ob' :=
  ⟨fun _ => h, fun a e => by rw [hf] at e; cases e⟩
theorem TrQ.bad {s : ByteArray} {r : Trm × RS} {out : Out} {ob' : List Ob} {a : Nat} (hf : r.2.f = some a) (h : out = .pan (.d (fltD 1 a)) ∧ ob' = [.dead]) : TrQ s r out ob' :=
  ⟨fun e => (by rw [hf] at e; cases e), fun b e => by rw [hf] at e; cases e; exact h⟩
theorem TrQ.ret {s : ByteArray} {r : Trm × RS} {v : SV} {ob' : List Ob} (h : TrQ s r (.ret v) ob') : r.2.f = none ∧ v = .d r.1.d ∧ ob' = [scA s r.2.p] := by
  cases hf : r.2.f with
  | none =>
    obtain ⟨h1, h2⟩ := h.1 hf
    cases h1
    exact ⟨rfl, rfl, h2⟩
  | some a => obtain ⟨h1, _⟩ := h.2 a hf; cases h1
theorem TrQ.pan {s : ByteArray} {r : Trm × RS} {v : SV} {ob' : List Ob} (h : TrQ s r (.pan v) ob') : ∃ a, r.2.f = some a ∧ v = .d (fltD 1 a) ∧ ob' = [.dead] := by
  cases hf : r.2.f with
  | none => obtain ⟨h1, _⟩ := h.1 hf; cases h1
  | some a =>
    obtain ⟨h1, h2⟩ := h.2 a hf
    cases h1
    exact ⟨a, rfl, rfl, h2⟩

theorem termR_some {s : ByteArray} {p a : Nat} : ∀ n, termR n s ⟨p, some a⟩ = (zeroT, ⟨p, some a⟩)
  | 0 => rfl
  | _ + 1 => rfl
theorem parts_some {s : ByteArray} {n i j a : Nat} {r : RS} (h : (partsR (termR n s) i r).2.f = some a) : (partsR (termR n s) (i + j) r).2.f = some a := by
  induction j with
  | zero => exact h
  | succ j ih =>
    show (termR n s (partsR (termR n s) (i + j) r).2).2.f = some a
    rcases hx : (partsR (termR n s) (i + j) r).2 with ⟨q, f⟩
    rw [hx] at ih
    simp only at ih
    subst ih
    rw [termR_some]
theorem take_some {s w : ByteArray} {r : RS} {a : Nat} (h : r.f = some a) : (takeR s w r).f = some a := by
  obtain ⟨q, f⟩ := r
  simp only at h
  subst h
  exact takeR_some
theorem term_node {s : ByteArray} {p n k : Nat} (h1 : (tokR s p).1 = ⟨#[40]⟩) (hk : kindT (tokR s (stepAt s p)).1 = k) (h3 : ¬ k = 0) :
    termR (n + 1) s ⟨p, none⟩ = (.mk k 0 (headR s k ⟨stepAt s (stepAt s p), none⟩).1 (headR s k ⟨stepAt s (stepAt s p), none⟩).2.1 (partsR (termR n s) (partsOf k) (headR s k ⟨stepAt s (stepAt s p), none⟩).2.2).1, takeR s ⟨#[41]⟩ (partsR (termR n s) (partsOf k) (headR s k ⟨stepAt s (stepAt s p), none⟩).2.2).2) := by
  have e1 := nextR_eq (s := s) (p := p) (by rw [h1]; decide)
  have e2 := nextR_eq (s := s) (p := stepAt s p) (by intro e; rw [e] at hk; exact h3 (by rw [← hk]; exact kindT_emp.1))
  rcases hx : headR s k ⟨stepAt s (stepAt s p), none⟩ with ⟨nm, L, r3⟩
  rw [termR_node (nm := nm) (L := L) (r3 := r3) h1 (by rw [e1]; exact hk) h3 (by rw [e1, e2]; exact hx)]
theorem term_headbad {s : ByteArray} {p n k a : Nat} (h1 : (tokR s p).1 = ⟨#[40]⟩) (hk : kindT (tokR s (stepAt s p)).1 = k) (h3 : ¬ k = 0) (hf : (headR s k ⟨stepAt s (stepAt s p), none⟩).2.2.f = some a) : (termR (n + 1) s ⟨p, none⟩).2.f = some a := by
  rw [term_node h1 hk h3]
  refine take_some ?_
  have := parts_some (s := s) (n := n) (i := 0) (j := partsOf k) (r := (headR s k ⟨stepAt s (stepAt s p), none⟩).2.2) hf
  rwa [Nat.zero_add] at this
theorem term_partbad {s : ByteArray} {p n k a i : Nat} {nm : ByteArray} {L : List Lvl} {r3 : RS} (h1 : (tokR s p).1 = ⟨#[40]⟩) (hk : kindT (tokR s (stepAt s p)).1 = k) (h3 : ¬ k = 0) (h4 : headR s k ⟨stepAt s (stepAt s p), none⟩ = (nm, L, r3)) (hi : i + 1 ≤ partsOf k)
    (hf : (termR n s (partsR (termR n s) i r3).2).2.f = some a) : (termR (n + 1) s ⟨p, none⟩).2.f = some a := by
  rw [term_node h1 hk h3, h4]
  refine take_some ?_
  have := parts_some (s := s) (n := n) (i := i + 1) (j := partsOf k - (i + 1)) (r := r3) hf
  rwa [show i + 1 + (partsOf k - (i + 1)) = partsOf k by omega] at this
theorem term_takebad {s : ByteArray} {p n k q : Nat} {nm : ByteArray} {L : List Lvl} {r3 : RS} (h1 : (tokR s p).1 = ⟨#[40]⟩) (hk : kindT (tokR s (stepAt s p)).1 = k) (h3 : ¬ k = 0) (h4 : headR s k ⟨stepAt s (stepAt s p), none⟩ = (nm, L, r3))
    (h5 : (partsR (termR n s) (partsOf k) r3).2 = ⟨q, none⟩) (h6 : ¬ (tokR s q).1 = ⟨#[41]⟩) : (termR (n + 1) s ⟨p, none⟩).2.f = some (tokR s q).2.1 := by
  rw [term_node h1 hk h3, h4]
  simp only [h5]
  exact takeR_no h6
theorem term_good {s : ByteArray} {p n k q : Nat} {nm : ByteArray} {L : List Lvl} {r3 : RS} (h1 : (tokR s p).1 = ⟨#[40]⟩) (hk : kindT (tokR s (stepAt s p)).1 = k) (h3 : ¬ k = 0) (h4 : headR s k ⟨stepAt s (stepAt s p), none⟩ = (nm, L, r3))
    (h5 : (partsR (termR n s) (partsOf k) r3).2 = ⟨q, none⟩) (h6 : (tokR s q).1 = ⟨#[41]⟩) : termR (n + 1) s ⟨p, none⟩ = (.mk k 0 nm L (partsR (termR n s) (partsOf k) r3).1, ⟨stepAt s q, none⟩) := by
  rw [term_node h1 hk h3, h4]
  simp only [h5]
  rw [takeR_yes (by decide) h6]
theorem peek_step {s : ByteArray} {q : Nat} : peekR s ⟨q, none⟩ = ⟨#[41]⟩ ↔ stepTok s q = ⟨#[41]⟩ := by
  rw [step_is (by decide) (by decide)]
  unfold peekR
  split
  · rename_i h
    constructor
    · intro e; exact absurd e (by decide)
    · intro e
      rcases h with h | h
      · rw [tokR_empty h] at e; exact absurd e (by decide)
      · exact absurd rfl h
  · exact Iff.rfl
theorem name_yes {s : ByteArray} {p : Nat} (h : isNameB (tokR s p).1 = true) : nameR s ⟨p, none⟩ = ((tokR s p).1, ⟨stepAt s p, none⟩) := by
  have hne : (tokR s p).1 ≠ .empty := by
    intro e; rw [e] at h; simp [isNameB] at h
  have h2 : (tokR s p).2.2 = true := by
    cases h3 : (tokR s p).2.2 with
    | true => rfl
    | false => exact absurd (tokR_empty h3) hne
  unfold nameR stepAt; dsimp only
  rw [if_neg (by simp [h, h2]), if_pos h2]
theorem name_no {s : ByteArray} {p : Nat} (h : isNameB (tokR s p).1 = false) : (nameR s ⟨p, none⟩).2.f = some (tokR s p).2.1 := by
  unfold nameR; dsimp only
  rw [if_pos (.inr h)]; rfl
theorem sname_spec (s : ByteArray) (hs : s.size ≤ 1099511627776) (b : Nat) (hb : b ≤ s.size) (w : ByteArray) (pos : Nat) :
    Tri Tryd.prog gl 62 [scO s b w pos] [.blk 0 0] fun out ob' => (isNameB w = true ∧ out = .ret (.d (.v (.string w))) ∧ ob' = [scA s b]) ∨ (isNameB w = false ∧ out = .pan (.d (fltD 1 pos)) ∧ ob' = [scO s b w pos]) := by
  cases h : isNameB w with
  | true => exact (name_ok s hs b hb w pos h).mono fun o b hq => .inl ⟨rfl, hq⟩
  | false => exact (name_bad s b w pos h).mono fun o b hq => .inr ⟨rfl, hq⟩
theorem levels_bad {s : ByteArray} {r0 r' : RS} {m a : Nat} {acc : List Lvl} (h4 : levelsR (s.size + 2) s r0 = (acc ++ (levelsR m s r').1, (levelsR m s r').2)) (hm : 0 < m) (h : r'.f = none ∧ ¬ peekR s r' = ⟨#[41]⟩) (hf : (levelR (s.size + 1) s r').2.f = some a) : (levelsR (s.size + 2) s r0).2.f = some a := by
  rw [h4]
  obtain ⟨m, rfl⟩ : ∃ k, m = k + 1 := ⟨m - 1, by omega⟩
  simp only [levelsR]
  rw [if_pos h]
  simp only
  cases m with
  | zero => exact hf
  | succ m => simp only [levelsR]; rw [if_neg (by rintro ⟨e, _⟩; rw [hf] at e; cases e)]; exact hf

theorem head_one {s : ByteArray} {k : Nat} {r : RS} (h : k = 1) : headR s k r = (.empty, [(levelR (s.size + 1) s r).1], (levelR (s.size + 1) s r).2) := by unfold headR; rw [if_pos h]
theorem head_two {s : ByteArray} {k p : Nat} (h : k = 2) (hn : isNameB (tokR s p).1 = true) : headR s k ⟨p, none⟩ = ((tokR s p).1, (levelsR (s.size + 2) s ⟨stepAt s p, none⟩).1, (levelsR (s.size + 2) s ⟨stepAt s p, none⟩).2) := by
  unfold headR; rw [if_neg (by omega), if_pos h, name_yes hn]
theorem head_no {s : ByteArray} {k p : Nat} (h : k = 2) (hn : isNameB (tokR s p).1 = false) : (headR s k ⟨p, none⟩).2.2.f = some (tokR s p).2.1 := by
  have h1 := name_no hn
  unfold headR; rw [if_neg (by omega), if_pos h]
  show (levelsR (s.size + 1 + 1) s (nameR s ⟨p, none⟩).2).2.f = _
  simp only [levelsR]
  rw [if_neg (by rintro ⟨e, _⟩; rw [h1] at e; cases e)]
  exact h1
theorem head_else {s : ByteArray} {k : Nat} {r : RS} (h : ¬ k = 1) (h2 : ¬ k = 2) : headR s k r = (.empty, [], r) := by unfold headR; rw [if_neg h, if_neg h2]
theorem levels_stepN {s : ByteArray} {r0 : RS} {q qb m : Nat} {acc : List Lvl} {x : Lvl} (hinv : q ≤ s.size ∧ acc.length + m = s.size + 2 ∧ s.size - q < m ∧ levelsR (s.size + 2) s r0 = (acc ++ (levelsR m s ⟨q, none⟩).1, (levelsR m s ⟨q, none⟩).2))
    (h : ¬ peekR s ⟨q, none⟩ = ⟨#[41]⟩) (hX : levelR (s.size + 1) s ⟨q, none⟩ = (x, ⟨qb, none⟩)) :
    qb ≤ s.size ∧ (acc ++ [x]).length + (m - 1) = s.size + 2 ∧ s.size - qb < m - 1 ∧ levelsR (s.size + 2) s r0 = (acc ++ [x] ++ (levelsR (m - 1) s ⟨qb, none⟩).1, (levelsR (m - 1) s ⟨qb, none⟩).2) := by
  have := levels_step (r' := ⟨q, none⟩) (x := x) ⟨hinv.1, hinv.2.1, fun _ => hinv.2.2.1, hinv.2.2.2⟩ ⟨rfl, h⟩ (by rw [hX])
  rw [hX] at this
  exact ⟨this.1, this.2.1, this.2.2.1 rfl, this.2.2.2⟩

theorem sread_spec (s : ByteArray) (hs : s.size ≤ 1099511627776) : ∀ (n p : Nat), p ≤ s.size → s.size < n + p →
    Tri Tryd.prog (glQ g) 30 [scA s p] [.blk 0 0] (TrQ s (termR n s ⟨p, none⟩)) := by
  intro n
  induction n with
  | zero => intro p hp hn; omega
  | succ n ih =>
    intro p hp hn
    have hsl := stepAt_le hp
    cases hh : hashB (stepTok s p) with
    | true =>
      rw [step_hash] at hh
      have hh2 := hh
      simp only [hashB, Bool.and_eq_true, decide_eq_true_eq] at hh2
      obtain ⟨ht, ha, hf⟩ := step_tok (s := s) (p := p) hh2.1
      have hash := tok_hash (s := s) hp hh2.1 hh2.2
      have hex : ((tokR s p).1.extract 1 (tokR s p).1.size).size = (tokR s p).1.size - 1 := by rw [ByteArray.size_extract]; omega
      have h2s : 2 ≤ (tokR s p).1.size := tok_hash2 hp hh2.1 hh2.2
      have hne : (tokR s p).1 ≠ ⟨#[40]⟩ := by intro e; rw [e] at hh2; exact absurd hh2.2 (by decide)
      rw [termR_num ⟨hh2.1, .inl hh2.2⟩ hne]
      unfold scA scO
      rw [ht]
      refine triS_of_runs Tryd.func30 rfl Tryd.ntmps30 (rs := [.cell 2 29]) rfl rfl rfl 1 rfl ?_
      refine sr ?_; refine oc (T := fun _ => False) (alc ti29 ?_ (hl := by simp only [List.length_cons, List.length_nil, Nat.reduceAdd]; rfl)); refine nx ?_; refine runs_seq ?_; refine sr ?_; refine o1 (mv ?_); refine o1 (ncb ?_)
      refine o1 (fdb ti76 ?_); refine o1 (ldb ti9 ?_); refine oc (T := fun _ => False) (op_call ca56 rfl rfl rfl rfl (cut_spec (tokR s p).1) (fir (fir .nil)) (fun d hd => ?_)); obtain rfl := hd; rw [hh]; refine o1 (mv ?_); refine o1 (ex2 ?_)
      refine o1 (ex2 ?_); refine o1 (asg ?_); refine o1 (asg ?_); refine nx ?_; refine kp [4, 3, 2, 0] ?_; refine sr ?_; refine o1 (mv ?_); refine nx ?_; refine cdf (fun h2 => ?_) (fun h2 => ?_)
      · simp only [nrm, Int.reduceEq, Int.reduceNe, Int.reduceLT, Int.reduceLE] at h2
      (try simp only [nrm, Int.reduceEq, Int.reduceNe, Int.reduceLT, Int.reduceLE] at h2); refine sr ?_; refine o1 (mv ?_)
      refine oc (cv ca57 rfl rfl (atoi_spec ((tokR s p).1.extract 1 (tokR s p).1.size) (by omega) (by omega) hash.2.2) (fir .nil) ?_); refine o1 (mv ?_); refine o1 (ex2 ?_); refine o1 (ex2 ?_); refine o1 (asg ?_); refine o1 (asg ?_); refine nx ?_
      refine runs_seq ?_; refine kp [6, 5, 2, 0] ?_; refine sr ?_; refine o1 (mv ?_); refine o1 (f_ineq_nil ii40 ?_); refine nx ?_; refine cd (fun h4 => ?_) (fun h4 => ?_)
      · simp only [nrm, Int.reduceEq, Int.reduceNe, Int.reduceLT, Int.reduceLE] at h4
      (try simp only [nrm, Int.reduceEq, Int.reduceNe, Int.reduceLT, Int.reduceLE] at h4); refine runs_skip ?_; refine seq_normal ?_; refine sr ?_; refine o1 (mv ?_)
      refine oc (ck ca55 rfl rfl (step_spec s hs (stepAt s p) hsl.2 (tokR s p).1 (tokR s p).2.1) [0] rfl (boc .nil) (fir .nil) ?_); refine nx ?_; refine kp [5, 2] ?_; refine sr ?_; refine o1 (mv ?_); refine o1 (bld ti29 ?_)
      refine oc (sto ti29 ?_); refine nx ?_; refine runs_ret ?_; refine seq_ret ?_; refine fin_ret ?_
      refine fin_odl ⟨_, _, rfl, (from_cell rfl rfl ti29 rfl rfl rfl rfl), rfl⟩ rfl ((Trm.mk 0 (numR ((tokR s p).1.extract 1 (tokR s p).1.size) ((tokR s p).1.extract 1 (tokR s p).1.size).size) .empty [] []).d) (by repeat (first | exact .refl _ | exact .nil | refine .agg ?_ | refine .cons ?_ ?_)) ([0]) ([scA s (stepAt s p)]) rfl rfl rfl ?_ ?_
      · repeat (first | exact boz | refine boc ?_)
      · rw [hex]; exact TrQ.ok hf ⟨rfl, by rw [ha]⟩
    | false =>
      have hh2 := hh
      rw [step_hash] at hh2
      unfold scA scO
      refine triS_of_runs Tryd.func30 rfl Tryd.ntmps30 (rs := [.cell 2 29]) rfl rfl rfl 1 rfl ?_
      refine sr ?_; refine oc (T := fun _ => False) (alc ti29 ?_ (hl := by simp only [List.length_cons, List.length_nil, Nat.reduceAdd]; rfl)); refine nx ?_; refine runs_seq ?_; refine sr ?_; refine o1 (mv ?_); refine o1 (ncb ?_)
      refine o1 (fdb ti76 ?_); refine o1 (ldb ti9 ?_); refine oc (T := fun _ => False) (op_call ca56 rfl rfl rfl rfl (cut_spec (stepTok s p)) (fir (fir .nil)) (fun d hd => ?_)); obtain rfl := hd; rw [hh]; refine o1 (mv ?_); refine o1 (ex2 ?_)
      refine o1 (ex2 ?_); refine o1 (asg ?_); refine o1 (asg ?_); refine nx ?_; refine kp [4, 3, 2, 0] ?_; refine sr ?_; refine o1 (mv ?_); refine nx ?_; refine cd (fun h2 => ?_) (fun h2 => ?_)
      · simp only [nrm, Int.reduceEq, Int.reduceNe, Int.reduceLT, Int.reduceLE] at h2
      (try simp only [nrm, Int.reduceEq, Int.reduceNe, Int.reduceLT, Int.reduceLE] at h2); refine runs_skip ?_; refine seq_normal ?_; refine sr ?_; refine o1 (mv ?_)
      refine oc (op_callo ca59 rfl rfl rfl rfl (stake_spec s hs (stepAt s p) hsl.2 (stepTok s p) ⟨#[40]⟩ (tokR s p).2.1) [0] (boc .nil) rfl rfl rfl rfl (fir (fir .nil)) (fun s ob' hq => ?_) (fun s ob' hq => ?_))
      rotate_left
      · rcases hq with ⟨_, hq1, _⟩ | ⟨htk, hq1, rfl⟩
        · cases hq1
        cases hq1; refine ⟨_, _, _, _, _, rfl, rfl, rfl, rfl, rfl, ?_⟩; refine leave_d ([0]) ([.dead]) rfl rfl rfl (by repeat (first | exact boz | refine bod ?_)) ?_
        rw [termR_bad (by rintro ⟨ha, hb | hb⟩; rw [show hashB (tokR s p).1 = true by simp [hashB, ha, hb]] at hh2; cases hh2; exact htk ((step_is (by decide) (by decide)).2 hb))]; exact TrQ.bad (a := (tokR s p).2.1) rfl ⟨rfl, rfl⟩
      rcases hq with ⟨htk, hq1, rfl⟩ | ⟨_, hq1, _⟩
      rotate_left
      · cases hq1
      cases hq1
      have c2 : (tokR s p).1 = ⟨#[40]⟩ := (step_is (by decide) (by decide)).1 htk
      have hl2 := stepAt_le hsl.2
      have hl1 : p < stepAt s p := by
        have h7 := tokR_at (s := s) hp
        have h9 := step_tok (s := s) (p := p) (by rw [c2]; decide)
        rw [h9.2.1, nextR_ok (by rw [c2]; decide), c2]
        have : (ByteArray.mk #[40]).size = 1 := rfl
        simp only; omega
      unfold scA scO
      refine ⟨_, _, _, _, _, rfl, rfl, rfl, rfl, rfl, ?_⟩; refine nx ?_; refine runs_seq ?_; refine kp [2, 0] ?_; refine a_start ?_ (hm := by exact mixed); refine A1 0 rfl (fl_slice_arr ua95 ti9 rfl rfl rfl rfl rfl (by omega) rfl rfl ⟨_, rfl, ?_⟩)
      refine A1 1 rfl (mv ⟨_, rfl, ?_⟩); refine A1 2 rfl (ncb ⟨_, rfl, ?_⟩); refine A1 3 rfl (fdb ti76 ⟨_, rfl, ?_⟩); refine A1 4 rfl (ldb ti9 ⟨_, rfl, ?_⟩)
      refine A2 (T := fun _ => False) 5 rfl (op_call ca60 rfl rfl rfl rfl (index_spec (wordsT.drop 1) (stepTok s (stepAt s p)) (by decide)) (fir (fir .nil)) (fun d hd => ?_)); obtain rfl := hd
      have hik := idx_kind (stepTok s (stepAt s p))
      have hik2 := kindT_le (stepTok s (stepAt s p))
      refine A1 6 rfl (iad ⟨_, rfl, ?_⟩); refine A1 7 rfl (asg ⟨_, rfl, ?_⟩); refine a_end ?_; refine seq_normal ?_; refine runs_seq ?_; refine runs_seq ?_; refine kp [7, 2, 0] ?_
      rw [idx_kind, step_kind]
      have hkl := kindT_le (tokR s (stepAt s p)).1
      generalize hk : kindT (tokR s (stepAt s p)).1 = k at hkl ⊢
      refine runs_region ?_; refine o1 (mv ?_); refine o1 (ieq ?_); refine nx ?_; refine cd (fun h10 => ?_) (fun h10 => ?_)
      · (try simp only [nrm, Int.reduceEq, Int.reduceNe, Int.reduceLT, Int.reduceLE] at h10)
        refine runs_region ?_; refine o1 (mv ?_)
        refine oc (op_callo ca58 rfl rfl rfl rfl (sfail_spec s (stepAt s (stepAt s p)) (stepTok s (stepAt s p)) (tokR s (stepAt s p)).2.1) [0] (boc .nil) rfl rfl rfl rfl (fir .nil) (fun s ob' hq => ?_) (fun s ob' hq => ?_))
        · cases hq.1
        obtain ⟨hq1, rfl⟩ := hq; cases hq1; refine ⟨_, _, _, _, _, rfl, rfl, rfl, rfl, rfl, ?_⟩; refine leave_d ([0]) ([.dead]) rfl rfl rfl (by repeat (first | exact boz | refine bod ?_)) ?_
        rw [termR_kind c2 (by rw [nextR_eq (by rw [c2]; decide)]; show kindT (tokR s (stepAt s p)).1 = 0; omega), nextR_eq (by rw [c2]; decide)]; exact TrQ.bad (a := (tokR s (stepAt s p)).2.1) rfl ⟨rfl, rfl⟩
      (try simp only [nrm, Int.reduceEq, Int.reduceNe, Int.reduceLT, Int.reduceLE] at h10); refine runs_skip ?_; refine seq_normal ?_; refine sr ?_; refine o1 (mv ?_)
      refine oc (ck ca55 rfl rfl (step_spec s hs (stepAt s (stepAt s p)) hl2.2 (stepTok s (stepAt s p)) (tokR s (stepAt s p)).2.1) [0] rfl (boc .nil) (fir .nil) ?_); refine nx ?_; refine kp [7, 2, 0] ?_; refine sr ?_; refine o1 (mv ?_)
      refine o1 (bld ti29 ?_); refine oc (T := fun _ => False) (alc ti29 ?_ (hl := by simp only [List.length_cons, List.length_nil, Nat.reduceAdd]; rfl)); refine oc (sto ti29 ?_); refine nx ?_; refine runs_seq ?_; refine runs_nilrow 29 5 rfl ?_
      refine runs_region ?_; refine o1 (asg ?_); refine nx ?_; refine runs_seq ?_; refine sr ?_; refine o1 (mv ?_); refine nx ?_; refine kp [49, 9, 8, 2, 0] ?_
      apply runs_cut_o (ι := ByteArray × List Lvl × Nat) (fun ⟨nm, L, q0⟩ => [(9, int (partsOf k))]) (fun ⟨nm, L, q0⟩ => [scA s q0, .cells [.d (.v (.int .i64 0)), .d (.v (.int .i64 0)), .d (.v (.string .empty)), .d (.v (.slice none 0 0)), .d (.v (.slice none 0 0))] 29, .cells [.d (.v (.int .i64 k)), .d (.v (.int .i64 0)), .d (.v (.string nm)), .own 3 3 (lvls L), .d (.v (.slice none 0 0))] 29, .row 90 3, .nilrow 29 5]) [8, 2, 0] (fun ⟨nm, L, q0⟩ => headR s k ⟨(stepAt s (stepAt s p)), none⟩ = (nm, L, ⟨q0, none⟩) ∧ ¬ k = 0)
      case hk => exact rfl
      case h1 =>
        refine runs_block ?_; refine runs_seq ?_
        have hk0 : ¬ k = 0 := by omega
        refine runs_region ?_; refine o1 (ieq ?_); refine o1 (asg ?_); refine nx ?_; refine cd (fun h16 => ?_) (fun h16 => ?_)
        · (try simp only [nrm, Int.reduceEq, Int.reduceNe, Int.reduceLT, Int.reduceLE] at h16)
          refine kp [8, 2, 0] ?_
          have ihL := slevel_spec (gl := glQ g) s hs (s.size + 1) (stepAt s (stepAt s p)) hl2.2 (by omega)
          rcases hla : levelR (s.size + 1) s ⟨(stepAt s (stepAt s p)), none⟩ with ⟨⟨ka, na, aa⟩, ⟨pa, fa⟩⟩
          rw [hla] at ihL
          refine runs_region ?_; refine o1 (mv ?_); refine oc (op_callo ca61 rfl rfl rfl rfl (ihL) [0] (boc .nil) rfl rfl rfl rfl (fir .nil) (fun s ob' hq => ?_) (fun s ob' hq => ?_))
          rotate_left
          · obtain ⟨a, hfa, rfl, rfl⟩ := hq.pan
            refine ⟨_, _, _, _, _, rfl, rfl, rfl, rfl, rfl, ?_⟩; refine leave_d ([0]) ([.dead]) rfl rfl rfl (by repeat (first | exact boz | refine bod ?_)) ?_
            exact TrQ.bad (term_headbad c2 hk hk0 (by rw [head_one (by omega), hla]; exact hfa)) ⟨rfl, rfl⟩
          obtain ⟨hfa, rfl, rfl⟩ := hq.ret; simp only at hfa; subst hfa; refine ⟨_, _, _, _, _, rfl, rfl, rfl, rfl, rfl, ?_⟩
          refine oc (T := fun _ => False) (op_lit sl26 [.tmp 53] ti90 rfl rfl rfl rfl rfl rfl rfl (by decide) (by decide) (by decide) (by simp only [List.length_cons, List.length_nil, Nat.reduceAdd]; rfl) rfl ?_); refine o1 (fdb ti29 ?_)
          refine oc (sto ti26 ?_); refine o1 (asg ?_); refine ops_nil ?_; refine inb_normal ?_; refine seq_back ?_; refine back_c ((.empty, [Lvl.mk ka na aa], pa)) rfl ?_ ([0, 1, 2, 4, 3]) ?_
          · exact ⟨by rw [head_one (by omega), hla], hk0⟩
          · refine mo ?_ (slx rfl (by exact Fit.of_eq (by unfold partsOf; first | (rw [if_pos (by omega)]; rfl) | (rw [if_neg (by omega), if_pos (by omega)]; rfl) | (rw [if_neg (by omega), if_neg (by omega)]; rfl))) (sly (sly (sly slz))))
            repeat (first | exact boz | refine boc ?_ | refine bor ?_ | refine bonn ?_)
        (try simp only [nrm, Int.reduceEq, Int.reduceNe, Int.reduceLT, Int.reduceLE] at h16); refine sr ?_; refine o1 (ieq ?_); refine o1 (asg ?_); refine nx ?_; refine cdf (fun h18 => ?_) (fun h18 => ?_)
        · (try simp only [nrm, Int.reduceEq, Int.reduceNe, Int.reduceLT, Int.reduceLE] at h18)
          refine runs_seq ?_; refine kp [49, 9, 8, 2, 0] ?_; refine runs_nilrow 90 3 rfl ?_; refine runs_region ?_; refine o1 (ieq ?_); refine o1 (asg ?_); refine nx ?_; refine cdf (fun h22 => ?_) (fun h22 => ?_)
          · (try simp only [nrm, Int.reduceEq, Int.reduceNe, Int.reduceLT, Int.reduceLE] at h22)
            refine runs_skip ?_; refine inb_normal ?_; refine seq_back ?_; refine back_c ((.empty, [], (stepAt s (stepAt s p)))) rfl ?_ ([0, 1, 2, 4, 3]) ?_
            · exact ⟨head_else (by omega) (by omega), hk0⟩
            · refine mo ?_ (slx rfl (by exact Fit.of_eq (by unfold partsOf; first | (rw [if_pos (by omega)]; rfl) | (rw [if_neg (by omega), if_pos (by omega)]; rfl) | (rw [if_neg (by omega), if_neg (by omega)]; rfl))) (sly (sly (sly slz))))
              repeat (first | exact boz | exact fiz | refine boc ?_ | refine bonn ?_ | refine bon ?_ | refine boe ?_ ?_ | refine fir ?_ | refine .cons (.nil rfl) ?_)
          (try simp only [nrm, Int.reduceEq, Int.reduceNe, Int.reduceLT, Int.reduceLE] at h22); refine kp [8, 2, 0] ?_; refine runs_region ?_; refine o1 (asg ?_); refine ops_nil ?_; refine inb_normal ?_; refine seq_back ?_
          refine back_c ((.empty, [], (stepAt s (stepAt s p)))) rfl ?_ ([0, 1, 2, 4, 3]) ?_
          · exact ⟨head_else (by omega) (by omega), hk0⟩
          · refine mo ?_ (slx rfl (by exact Fit.of_eq (by unfold partsOf; first | (rw [if_pos (by omega)]; rfl) | (rw [if_neg (by omega), if_pos (by omega)]; rfl) | (rw [if_neg (by omega), if_neg (by omega)]; rfl))) (sly (sly (sly slz))))
            repeat (first | exact boz | exact fiz | refine boc ?_ | refine bonn ?_ | refine bon ?_ | refine boe ?_ ?_ | refine fir ?_ | refine .cons (.nil rfl) ?_)
        (try simp only [nrm, Int.reduceEq, Int.reduceNe, Int.reduceLT, Int.reduceLE] at h18); refine kp [8, 2, 0] ?_; refine sr ?_; refine o1 (mv ?_)
        refine oc (op_callo ca62 rfl rfl rfl rfl (sname_spec s hs (stepAt s (stepAt s (stepAt s p))) (stepAt_le hl2.2).2 (stepTok s (stepAt s (stepAt s p))) (tokR s (stepAt s (stepAt s p))).2.1) [0] (boc .nil) rfl rfl rfl rfl (fir .nil) (fun s ob' hq => ?_) (fun s ob' hq => ?_))
        rotate_left
        · rcases hq with ⟨_, hq1, _⟩ | ⟨hnm, hq1, rfl⟩
          · cases hq1
          cases hq1; refine ⟨_, _, _, _, _, rfl, rfl, rfl, rfl, rfl, ?_⟩; refine leave_d ([0]) ([.dead]) rfl rfl rfl (by repeat (first | exact boz | refine bod ?_)) ?_
          exact TrQ.bad (term_headbad c2 hk hk0 (head_no (by omega) (by rw [← step_isName]; exact hnm))) ⟨rfl, rfl⟩
        rcases hq with ⟨hnm, hq1, rfl⟩ | ⟨_, hq1, _⟩
        rotate_left
        · cases hq1
        cases hq1
        have hnm2 : isNameB (tokR s (stepAt s (stepAt s p))).1 = true := by rw [← step_isName]; exact hnm
        have hnt : (tokR s (stepAt s (stepAt s p))).1 = stepTok s (stepAt s (stepAt s p)) := (step_tok (by intro e; rw [e] at hnm2; simp [isNameB] at hnm2)).1.symm
        refine ⟨_, _, _, _, _, rfl, rfl, rfl, rfl, rfl, ?_⟩; refine o1 (fdb ti29 ?_); refine oc (sto ti9 ?_); refine o1 (asg ?_); refine nx ?_; refine runs_block ?_; refine kp [9, 8, 2, 0] ?_; refine runs_nilrow 90 3 rfl ?_
        apply runs_loop_o (ι := Nat × List Lvl × Nat) (fun ⟨m, acc, q⟩ => []) (fun ⟨m, acc, q⟩ => [scA s q, .cells [.d (.v (.int .i64 0)), .d (.v (.int .i64 0)), .d (.v (.string .empty)), .d (.v (.slice none 0 0)), .d (.v (.slice none 0 0))] 29, .cells [.d (.v (.int .i64 k)), .d (.v (.int .i64 0)), .d (.v (.string (stepTok s (stepAt s (stepAt s p))))), .own 4 3 (lvls acc), .d (.v (.slice none 0 0))] 29, .nilrow 29 5, .row 90 3]) [9, 8, 2, 0] (fun ⟨m, acc, q⟩ => q ≤ s.size ∧ acc.length + m = s.size + 2 ∧ s.size - q < m ∧ levelsR (s.size + 2) s ⟨stepAt s (stepAt s (stepAt s p)), none⟩ = (acc ++ (levelsR m s ⟨q, none⟩).1, (levelsR m s ⟨q, none⟩).2)) (fun ⟨m, acc, q⟩ => m) ((s.size + 2, [], stepAt s (stepAt s (stepAt s p)))) ([0, 1, 2, 3, 4])
        case hk => exact rfl
        case hI =>
          exact ⟨(stepAt_le hl2.2).2, by simp, by omega, rfl⟩
        case hm =>
          refine mo ?_ (sly (sly (sly (sly slz))))
          repeat (first | exact boz | exact fiz | refine boc ?_ | refine bonn ?_ | refine bon ?_ | refine boe ?_ ?_ | refine fir ?_ | refine .cons (.nil rfl) ?_)
        case h =>
          rintro ⟨m, acc, q⟩ hinv
          try dsimp only at hinv
          refine kp [9, 8, 2, 0] ?_; refine runs_seq ?_; refine sr ?_; refine o1 (mv ?_); refine o1 (ncb ?_); refine o1 (fdb ti76 ?_); refine o1 (ldb ti9 ?_); refine o1 (sne ?_); refine nx ?_; refine cdf (fun h20 => ?_) (fun h20 => ?_)
          · (try simp only [nrm, Int.reduceEq, Int.reduceNe, Int.reduceLT, Int.reduceLE] at h20)
            refine runs_exit ?_; refine seq_exit ?_; refine seq_exit ?_; refine inb_exit ?_; refine inb_normal ?_; refine seq_back ?_; refine back_c ((stepTok s (stepAt s (stepAt s p)), acc, q)) rfl ?_ ([0, 1, 2, 4, 3]) ?_
            · exact ⟨by rw [head_two (by omega) hnm2, hinv.2.2.2, levels_stop (by rintro ⟨_, hb⟩; exact hb (peek_step.2 h20)), List.append_nil, hnt], hk0⟩
            · refine mo ?_ (slx rfl (by exact Fit.of_eq (by unfold partsOf; first | (rw [if_pos (by omega)]; rfl) | (rw [if_neg (by omega), if_pos (by omega)]; rfl) | (rw [if_neg (by omega), if_neg (by omega)]; rfl))) (sly (sly (sly slz))))
              repeat (first | exact boz | refine boc ?_ | refine bor ?_ | refine bonn ?_)
          (try simp only [nrm, Int.reduceEq, Int.reduceNe, Int.reduceLT, Int.reduceLE] at h20); refine runs_skip ?_; refine seq_normal ?_; refine runs_block ?_; refine kp [9, 8, 2, 0] ?_
          have hm1 := hinv.2.2.1
          have hpk : ¬ peekR s ⟨q, none⟩ = ⟨#[41]⟩ := fun e => h20 (peek_step.1 e)
          have ihL := slevel_spec (gl := glQ g) s hs (s.size + 1) q hinv.1 (by omega)
          rcases hlb : levelR (s.size + 1) s ⟨q, none⟩ with ⟨⟨kb, nb, ab⟩, ⟨qb, fb⟩⟩
          rw [hlb] at ihL
          have hln := lvls_len acc
          have hlast : lvls acc ++ [[.v (.int .i64 kb), .v (.string nb), .sl 3 (lvls ab)]] = lvls (acc ++ [Lvl.mk kb nb ab]) := by rw [lvls_app]; rfl
          refine a_start ?_ (hm := by exact mixed); refine A1 0 rfl (fdb ti29 ⟨_, rfl, ?_⟩); refine A1 1 rfl (ldb ti26 ⟨_, rfl, ?_⟩); refine A1 2 rfl (mv ⟨_, rfl, ?_⟩)
          refine A2 3 rfl (op_callo ca61 rfl rfl rfl rfl (ihL) [0] (boc .nil) rfl rfl rfl rfl (fir .nil) (fun s ob' hq => ?_) (fun s ob' hq => ?_))
          rotate_left
          · obtain ⟨a, hfa, rfl, rfl⟩ := hq.pan
            refine ⟨_, _, _, _, _, rfl, rfl, rfl, rfl, rfl, ?_⟩; refine leave_d ([0]) ([.dead]) rfl rfl rfl (by repeat (first | exact boz | refine bod ?_)) ?_
            exact TrQ.bad (term_headbad c2 hk hk0 (by rw [head_two (by omega) hnm2]; exact levels_bad hinv.2.2.2 (by omega) ⟨rfl, hpk⟩ (by rw [hlb]; exact hfa))) ⟨rfl, rfl⟩
          obtain ⟨hfb, rfl, rfl⟩ := hq.ret; simp only at hfb; subst hfb; refine ⟨_, _, _, _, _, rfl, rfl, rfl, rfl, rfl, ?_⟩
          refine A2 (T := fun _ => False) 4 rfl (op_lit sl26 [.tmp 69] ti90 rfl rfl rfl rfl rfl rfl rfl (by decide) (by decide) (by decide) (by simp only [List.length_cons, List.length_nil, Nat.reduceAdd]; rfl) rfl ?_)
          refine A2 5 rfl (op_append sl26 rfl rfl rfl rfl rfl rfl rfl (.inl rfl) (by decide) (by simp) (by first | decide | (simp only [maxLen, List.length_cons, List.length_nil, List.length_append, List.length_map]; omega) | omega) rfl rfl rfl ?_)
          refine A1 6 rfl (fdb ti29 ⟨_, rfl, ?_⟩); refine A2 7 rfl (sto ti26 ?_); refine a_end ?_; refine inb_normal ?_; refine seq_back ?_
          rw [hlast]
          refine back_c ((m - 1, acc ++ [Lvl.mk kb nb ab], qb)) rfl ?_ ([0, 1, 2, 3, 4]) ?_
          · exact ⟨levels_stepN hinv hpk hlb, show m - 1 < m by omega⟩
          · refine mo ?_ (sly (sly (sly (sly slz))))
            repeat (first | exact boz | refine boc ?_ | refine bor ?_ | refine bonn ?_)
      case h2 =>
        rintro ⟨nm, L, q0⟩ hcut
        try dsimp only at hcut
        refine kp [9, 8, 2, 0] ?_; refine runs_seq ?_; refine runs_seq ?_; obtain ⟨hcut, hk0⟩ := hcut
        have hh3 := headR_le (s := s) k (r := ⟨(stepAt s (stepAt s p)), none⟩) hl2.2
        rw [hcut] at hh3
        dsimp only at hh3
        have hpl := partsOf_le k
        have hl2l := hl2.1
        refine runs_region ?_; refine o1 (mv ?_); refine o1 (mv ?_); refine nx ?_; refine runs_block ?_; refine kp [76, 75, 8, 2, 0] ?_
        apply runs_loop_o (ι := Nat × Nat) (fun ⟨i, q⟩ => [(76, int i)]) (fun ⟨i, q⟩ => [scA s q, .cells [.d (.v (.int .i64 0)), .d (.v (.int .i64 0)), .d (.v (.string .empty)), .d (.v (.slice none 0 0)), .d (.v (.slice none 0 0))] 29, .cells [.d (.v (.int .i64 k)), .d (.v (.int .i64 0)), .d (.v (.string nm)), .own 3 3 (lvls L), .own 4 5 (trms (partsR (termR n s) i ⟨q0, none⟩).1)] 29, .row 90 3, .row 29 5]) [75, 8, 2, 0] (fun ⟨i, q⟩ => i ≤ partsOf k ∧ q ≤ s.size ∧ stepAt s p ≤ q ∧ (partsR (termR n s) i ⟨q0, none⟩).2 = ⟨q, none⟩) (fun ⟨i, q⟩ => partsOf k - i) ((0, q0)) ([0, 1, 2, 3, 4])
        case hk => exact rfl
        case hI =>
          exact ⟨Nat.zero_le _, hh3.2, by omega, rfl⟩
        case hm =>
          refine mo ?_ (sly (sly (sly (sly (sly slz)))))
          repeat (first | exact boz | exact fiz | refine boc ?_ | refine bor ?_ | refine bon ?_ | refine boe ?_ ?_ | refine fir ?_ | refine .cons (.nil rfl) ?_)
        case h =>
          rintro ⟨i, q⟩ hinv
          try dsimp only at hinv
          refine kp [76, 75, 8, 2, 0] ?_; refine sr ?_; refine o1 (ilt ?_); refine nx ?_; refine runs_seq ?_; refine cdf (fun h25 => ?_) (fun h25 => ?_)
          · (try simp only [nrm, Int.reduceEq, Int.reduceNe, Int.reduceLT, Int.reduceLE] at h25)
            refine runs_exit ?_; refine seq_exit ?_; refine seq_exit ?_; refine inb_exit ?_; refine seq_normal ?_; refine runs_seq ?_; obtain ⟨hi1, hi2, hi3, hi4⟩ := hinv; obtain rfl : i = partsOf k := (by omega); refine runs_region ?_
            refine o1 (mv ?_); refine oc (op_callo ca59 rfl rfl rfl rfl (stake_spec s hs (stepAt s q) (stepAt_le hi2).2 (stepTok s q) ⟨#[41]⟩ (tokR s q).2.1) [0] (boc .nil) rfl rfl rfl rfl (fir (fir .nil)) (fun s ob' hq => ?_) (fun s ob' hq => ?_))
            rotate_left
            · rcases hq with ⟨_, hq1, _⟩ | ⟨htk2, hq1, rfl⟩
              · cases hq1
              cases hq1; refine ⟨_, _, _, _, _, rfl, rfl, rfl, rfl, rfl, ?_⟩; refine leave_d ([0]) ([.dead]) rfl rfl rfl (by repeat (first | exact boz | refine bod ?_)) ?_
              exact TrQ.bad (term_takebad c2 hk hk0 hcut hi4 (fun e => htk2 ((step_is (by decide) (by decide)).2 e))) ⟨rfl, rfl⟩
            rcases hq with ⟨htk2, hq1, rfl⟩ | ⟨_, hq1, _⟩
            rotate_left
            · cases hq1
            cases hq1; refine ⟨_, _, _, _, _, rfl, rfl, rfl, rfl, rfl, ?_⟩; refine nx ?_; refine kp [8, 2] ?_; refine sr ?_; refine o1 (ldb ti29 ?_); refine oc (sto ti29 ?_); refine nx ?_; refine runs_ret ?_; refine fin_ret ?_
            refine fin_odl ⟨_, _, rfl, (from_cell rfl rfl ti29 rfl rfl rfl rfl), rfl⟩ rfl ((Trm.mk k 0 nm L (partsR (termR n s) (partsOf k) ⟨q0, none⟩).1).d) (by exact .refl _) ([0]) ([scA s (stepAt s q)]) rfl rfl rfl ?_ ?_
            · repeat (first | exact boz | refine boc ?_)
            · rw [term_good c2 hk hk0 hcut hi4 ((step_is (by decide) (by decide)).1 htk2)]; exact TrQ.ok rfl ⟨rfl, rfl⟩
          (try simp only [nrm, Int.reduceEq, Int.reduceNe, Int.reduceLT, Int.reduceLE] at h25); refine runs_skip ?_; refine seq_normal ?_; refine runs_seq ?_; refine runs_block ?_; obtain ⟨hi1, hi2, hi3, hi4⟩ := id hinv
          have ihT := ih q hi2 (by omega)
          have hle := termR_le (s := s) n ⟨q, none⟩ hi2
          rcases hlc : termR n s ⟨q, none⟩ with ⟨⟨k2, n2, s2, l2, a2'⟩, ⟨qc, fc⟩⟩
          rw [hlc] at ihT hle
          simp only at hle
          have hln : (trms (partsR (termR n s) i ⟨q0, none⟩).1).length = i := by rw [trms_len, partsR_len]
          have hlast : trms (partsR (termR n s) i ⟨q0, none⟩).1 ++ [[.v (.int .i64 k2), .v (.int .i64 n2), .v (.string s2), .sl 3 (lvls l2), .sl 5 (trms a2')]] = trms (partsR (termR n s) (i + 1) ⟨q0, none⟩).1 := by simp only [partsR]; rw [hi4, hlc, trms_app]; rfl
          refine a_start ?_ (hm := by exact mixed); refine A1 0 rfl (fdb ti29 ⟨_, rfl, ?_⟩); refine A1 1 rfl (ldb ti27 ⟨_, rfl, ?_⟩); refine A1 2 rfl (mv ⟨_, rfl, ?_⟩)
          refine A2 3 rfl (op_callo ca30 rfl rfl rfl rfl (ihT) [0] (boc .nil) rfl rfl rfl rfl (fir .nil) (fun s ob' hq => ?_) (fun s ob' hq => ?_))
          rotate_left
          · obtain ⟨a, hfa, rfl, rfl⟩ := hq.pan
            refine ⟨_, _, _, _, _, rfl, rfl, rfl, rfl, rfl, ?_⟩; refine leave_d ([0]) ([.dead]) rfl rfl rfl (by repeat (first | exact boz | refine bod ?_)) ?_
            exact TrQ.bad (term_partbad c2 hk hk0 hcut (i := i) (by omega) (by rw [hi4, hlc]; exact hfa)) ⟨rfl, rfl⟩
          obtain ⟨hfc, rfl, rfl⟩ := hq.ret; simp only at hfc; subst hfc; refine ⟨_, _, _, _, _, rfl, rfl, rfl, rfl, rfl, ?_⟩
          refine A2 (T := fun _ => False) 4 rfl (op_lit sl27 [.tmp 81] ti29 rfl rfl rfl rfl rfl rfl rfl (by decide) (by decide) (by decide) (by simp only [List.length_cons, List.length_nil, Nat.reduceAdd]; rfl) rfl ?_)
          refine A2 5 rfl (op_append sl27 rfl rfl rfl rfl rfl rfl rfl (.inl rfl) (by decide) (by simp) (by first | decide | (simp only [maxLen, List.length_cons, List.length_nil, List.length_append, List.length_map]; omega) | omega) rfl rfl rfl ?_)
          refine A1 6 rfl (fdb ti29 ⟨_, rfl, ?_⟩); refine A2 7 rfl (sto ti27 ?_); refine a_end ?_; refine inb_normal ?_; refine seq_normal ?_; refine kp [76, 75, 8, 2, 0] ?_; refine runs_region ?_; refine o1 (iad ?_); refine o1 (mv ?_)
          refine ops_nil ?_; refine seq_back ?_
          rw [hlast]
          refine back_c ((i + 1, qc)) rfl ?_ ([0, 1, 2, 3, 4]) ?_
          · exact ⟨⟨by omega, hle.2, by omega, by simp only [partsR]; rw [hinv.2.2.2, hlc]⟩, show partsOf k - (i + 1) < partsOf k - i by omega⟩
          · refine mo ?_ (sly (sly (sly (sly (sly slz)))))
            repeat (first | exact boz | refine boc ?_ | refine bor ?_)
end Go.Proofs.YtneaancanfpdhaaDoor
namespace Go.Proofs.YtneaancanfpdhaaDoor
open Go Go.Vd Go.RowKit
attribute [local irreducible] Runs OpsR OpR FloatR AnyR AnyO
variable {g gl : Nat → List D}

/-! faults stay -/
theorem fail_some {r : RS} {x a : Nat} (h : r.f = some a) : (r.fail x).f = some a := by obtain ⟨p, f⟩ := r; simp only at h; subst h; rfl
theorem next_some {s : ByteArray} {r : RS} {a : Nat} (h : r.f = some a) : (nextR s r).2.f = some a := by
  obtain ⟨p, f⟩ := r; simp only at h; subst h; unfold nextR; dsimp only; split <;> rfl
theorem name_some {s : ByteArray} {r : RS} {a : Nat} (h : r.f = some a) : (nameR s r).2.f = some a := by
  obtain ⟨p, f⟩ := r; simp only at h; subst h; unfold nameR; dsimp only; split <;> rfl
theorem term_some {s : ByteArray} {n : Nat} {r : RS} {a : Nat} (h : r.f = some a) : (termR n s r).2.f = some a := by
  obtain ⟨p, f⟩ := r; simp only at h; subst h; rw [termR_some]
theorem names_some {s : ByteArray} {n : Nat} {r : RS} {a : Nat} (h : r.f = some a) : (namesR n s r).2.f = some a := by
  rw [names_stop (by rintro ⟨e, _⟩; rw [h] at e; cases e)]; exact h
theorem ctors_some {s : ByteArray} {n : Nat} {r : RS} {a : Nat} (h : r.f = some a) : (ctorsR n s r).2.f = some a := by
  rw [ctors_stop (by rintro ⟨e, _⟩; rw [h] at e; cases e)]; exact h
theorem val_some {s : ByteArray} {k : Nat} {r : RS} {a : Nat} (h : r.f = some a) : (valR s k r).2.f = some a := by
  unfold valR; split
  · exact term_some h
  · exact h
theorem cons_some {s : ByteArray} {k : Nat} {r : RS} {a : Nat} (h : r.f = some a) : (consR s k r).2.f = some a := by
  unfold consR; split
  · exact ctors_some h
  · exact h
theorem arity_some {s : ByteArray} {k : Nat} {r : RS} {a : Nat} (h : r.f = some a) : (arityR s k r).2.f = some a := by
  unfold arityR; split
  · exact next_some h
  · exact h
theorem tail_some {s : ByteArray} {k : Nat} {nm : ByteArray} {ps : List ByteArray} {ar : Int} {r : RS} {a : Nat} (h : r.f = some a) : (declTail s k nm ps ar r).2.f = some a :=
  take_some (cons_some (val_some (term_some h)))
theorem decl_of_head {s : ByteArray} {r : RS} {a : Nat} (h : (declHead s r).2.2.2.f = some a) : (declR s r).2.f = some a := by
  unfold declR
  dsimp only
  split
  · exact h
  · split
    · exact fail_some h
    · exact tail_some (arity_some h)
theorem decl_take {s : ByteArray} {r : RS} {a : Nat} (h : (takeR s ⟨#[40]⟩ r).f = some a) : (declR s r).2.f = some a := by
  apply decl_of_head
  unfold declHead
  dsimp only
  split
  · exact fail_some h
  · exact take_some (names_some (take_some (name_some (next_some h))))
theorem decl_name {s : ByteArray} {r r1 : RS} {a : Nat} (h1 : takeR s ⟨#[40]⟩ r = r1) (hk : ¬ kindF (tokR s r1.p).1 = 0) (h : (nameR s (nextR s r1).2).2.f = some a) : (declR s r).2.f = some a := by
  apply decl_of_head
  unfold declHead
  dsimp only
  rw [h1, if_neg hk]
  exact take_some (names_some (take_some h))
theorem decl_open {s : ByteArray} {r r1 : RS} {a : Nat} (h1 : takeR s ⟨#[40]⟩ r = r1) (hk : ¬ kindF (tokR s r1.p).1 = 0) (h : (takeR s ⟨#[40]⟩ (nameR s (nextR s r1).2).2).f = some a) : (declR s r).2.f = some a := by
  apply decl_of_head
  unfold declHead
  dsimp only
  rw [h1, if_neg hk]
  exact take_some (names_some h)
theorem decl_names {s : ByteArray} {r r1 : RS} {a : Nat} (h1 : takeR s ⟨#[40]⟩ r = r1) (hk : ¬ kindF (tokR s r1.p).1 = 0) (h : (namesR (s.size + 2) s (takeR s ⟨#[40]⟩ (nameR s (nextR s r1).2).2)).2.f = some a) : (declR s r).2.f = some a := by
  apply decl_of_head
  unfold declHead
  dsimp only
  rw [h1, if_neg hk]
  exact take_some h
theorem decl_term {s : ByteArray} {r r6 r7 : RS} {k : Nat} {nm : ByteArray} {ps : List ByteArray} {ar : Int} {a : Nat} (h : declHead s r = (k, nm, ps, r6)) (h0 : ¬ k = 0) (hb : ¬ (k = 3 ∧ ¬ arityB (tokR s r6.p))) (ha : arityR s k r6 = (ar, r7)) (hf : (termR (s.size + 1) s r7).2.f = some a) : (declR s r).2.f = some a := by
  unfold declR
  dsimp only
  rw [h, if_neg h0, if_neg hb]
  simp only [ha]
  exact take_some (cons_some (val_some hf))
theorem decl_val {s : ByteArray} {r r6 r7 r8 : RS} {k : Nat} {nm : ByteArray} {ps : List ByteArray} {ar : Int} {t : Trm} {a : Nat} (h : declHead s r = (k, nm, ps, r6)) (h0 : ¬ k = 0) (hb : ¬ (k = 3 ∧ ¬ arityB (tokR s r6.p))) (ha : arityR s k r6 = (ar, r7)) (ht : termR (s.size + 1) s r7 = (t, r8)) (hf : (valR s k r8).2.f = some a) : (declR s r).2.f = some a := by
  unfold declR
  dsimp only
  rw [h, if_neg h0, if_neg hb]
  simp only [declTail, ha, ht]
  exact take_some (cons_some hf)
theorem decl_cons {s : ByteArray} {r r6 r7 r8 r9 : RS} {k : Nat} {nm : ByteArray} {ps : List ByteArray} {ar : Int} {t v : Trm} {a : Nat} (h : declHead s r = (k, nm, ps, r6)) (h0 : ¬ k = 0) (hb : ¬ (k = 3 ∧ ¬ arityB (tokR s r6.p))) (ha : arityR s k r6 = (ar, r7)) (ht : termR (s.size + 1) s r7 = (t, r8)) (hv : valR s k r8 = (v, r9)) (hf : (consR s k r9).2.f = some a) : (declR s r).2.f = some a := by
  unfold declR
  dsimp only
  rw [h, if_neg h0, if_neg hb]
  simp only [declTail, ha, ht, hv]
  exact take_some hf
theorem decl_close {s : ByteArray} {r r6 r7 r8 r9 r10 : RS} {k : Nat} {nm : ByteArray} {ps : List ByteArray} {ar : Int} {t v : Trm} {cs : List (ByteArray × Trm)} {a : Nat} (h : declHead s r = (k, nm, ps, r6)) (h0 : ¬ k = 0) (hb : ¬ (k = 3 ∧ ¬ arityB (tokR s r6.p))) (ha : arityR s k r6 = (ar, r7)) (ht : termR (s.size + 1) s r7 = (t, r8)) (hv : valR s k r8 = (v, r9)) (hc : consR s k r9 = (cs, r10)) (hf : (takeR s ⟨#[41]⟩ r10).f = some a) : (declR s r).2.f = some a := by
  rw [declR_good h h0 hb ha ht hv hc]; exact hf
/-- a fault inside a loop's round -/
theorem names_bad {s : ByteArray} {r0 r' : RS} {m a : Nat} {acc : List ByteArray} (h4 : namesR (s.size + 2) s r0 = (acc ++ (namesR m s r').1, (namesR m s r').2)) (hm : 0 < m) (h : r'.f = none ∧ ¬ peekR s r' = ⟨#[41]⟩) (hf : (nameR s r').2.f = some a) : (namesR (s.size + 2) s r0).2.f = some a := by
  rw [h4]
  obtain ⟨m, rfl⟩ : ∃ k, m = k + 1 := ⟨m - 1, by omega⟩
  simp only [namesR]
  rw [if_pos h]
  exact names_some hf
theorem ctors_bad {s : ByteArray} {r0 r' : RS} {m a : Nat} {acc : List (ByteArray × Trm)} (h4 : ctorsR (s.size + 2) s r0 = (acc ++ (ctorsR m s r').1, (ctorsR m s r').2)) (hm : 0 < m) (h : r'.f = none ∧ peekR s r' = ⟨#[40]⟩) (hf : (ctorR s r').2.f = some a) : (ctorsR (s.size + 2) s r0).2.f = some a := by
  rw [h4]
  obtain ⟨m, rfl⟩ : ∃ k, m = k + 1 := ⟨m - 1, by omega⟩
  simp only [ctorsR]
  rw [if_pos h]
  exact ctors_some hf
theorem peek_step40 {s : ByteArray} {q : Nat} : peekR s ⟨q, none⟩ = ⟨#[40]⟩ ↔ stepTok s q = ⟨#[40]⟩ := by
  rw [step_is (by decide) (by decide)]
  unfold peekR
  split
  · rename_i h
    constructor
    · intro e; exact absurd e (by decide)
    · intro e
      rcases h with h | h
      · rw [tokR_empty h] at e; exact absurd e (by decide)
      · exact absurd rfl h
  · exact Iff.rfl
theorem step_kindF {s : ByteArray} {p : Nat} : kindF (stepTok s p) = kindF (tokR s p).1 := by
  have h0 : kindF .empty = 0 ∧ kindF ⟨#[0]⟩ = 0 := by decide
  by_cases h : (tokR s p).1 = .empty
  · rw [h, h0.1]
    rcases step_emp h with h3 | h3 <;> rw [h3]
    · exact h0.1
    · exact h0.2
  · rw [(step_tok h).1]
theorem kindF_ne {s : ByteArray} {p : Nat} (h : ¬ kindF (tokR s p).1 = 0) : (tokR s p).1 ≠ .empty := by
  intro e; rw [e] at h; exact h (by decide)

/-! what file.read does, by what the reference's reader reads -/
def DrQ (s : ByteArray) (r : Dec × RS) (out : Out) (ob' : List Ob) : Prop :=
  (r.2.f = none → out = .ret (.d r.1.d) ∧ ob' = [scA s r.2.p]) ∧ (∀ a, r.2.f = some a → out = .pan (.d (fltD 1 a)) ∧ ob' = [.dead])
theorem DrQ.ok {s : ByteArray} {r : Dec × RS} {out : Out} {ob' : List Ob} (hf : r.2.f = none) (h : out = .ret (.d r.1.d) ∧ ob' = [scA s r.2.p]) : DrQ s r out ob' :=
  ⟨fun _ => h, fun a e => by rw [hf] at e; cases e⟩
theorem DrQ.bad {s : ByteArray} {r : Dec × RS} {out : Out} {ob' : List Ob} {a : Nat} (hf : r.2.f = some a) (h : out = .pan (.d (fltD 1 a)) ∧ ob' = [.dead]) : DrQ s r out ob' :=
  ⟨fun e => (by rw [hf] at e; cases e), fun b e => by rw [hf] at e; cases e; exact h⟩
theorem DrQ.ret {s : ByteArray} {r : Dec × RS} {v : SV} {ob' : List Ob} (h : DrQ s r (.ret v) ob') : r.2.f = none ∧ v = .d r.1.d ∧ ob' = [scA s r.2.p] := by
  cases hf : r.2.f with
  | none =>
    obtain ⟨h1, h2⟩ := h.1 hf
    cases h1
    exact ⟨rfl, rfl, h2⟩
  | some a => obtain ⟨h1, _⟩ := h.2 a hf; cases h1
theorem DrQ.pan {s : ByteArray} {r : Dec × RS} {v : SV} {ob' : List Ob} (h : DrQ s r (.pan v) ob') : ∃ a, r.2.f = some a ∧ v = .d (fltD 1 a) ∧ ob' = [.dead] := by
  cases hf : r.2.f with
  | none => obtain ⟨h1, _⟩ := h.1 hf; cases h1
  | some a =>
    obtain ⟨h1, h2⟩ := h.2 a hf
    cases h1
    exact ⟨a, rfl, rfl, h2⟩

/-! the words of declarations -/
def kindsM : ByteArray → Option Int := updM (updM (updM (fun _ => none) ⟨#[97, 120, 105, 111, 109]⟩ 1) ⟨#[100, 101, 102]⟩ 2) ⟨#[105, 110, 100, 117, 99, 116, 105, 118, 101]⟩ 3
theorem kindsM_eq (w : ByteArray) : (kindsM w).getD 0 = (kindF w : Int) := by
  unfold kindsM kindF updM
  dsimp only
  by_cases h3 : w = ⟨#[105, 110, 100, 117, 99, 116, 105, 118, 101]⟩
  · subst h3; decide
  · by_cases h2 : w = ⟨#[100, 101, 102]⟩
    · subst h2; decide
    · by_cases h1 : w = ⟨#[97, 120, 105, 111, 109]⟩
      · subst h1; decide
      · simp [h1, h2, h3]
theorem kinds_spec : Tri Tryd.prog gl 63 [] [] fun out ob' => out = .ret (.map 0) ∧ ob' = [.mapI kindsM] := by
  refine triS_of_runs Tryd.func63 rfl Tryd.ntmps63 (rs := [.tmp 0]) rfl rfl rfl 0 rfl ?_
  refine sr ?_; refine o1 (asg ?_); refine nx ?_; refine sr ?_; refine oc (T := fun _ => False) (op_mapmake rfl rfl rfl (by simp only [List.length_cons, List.length_nil, Nat.reduceAdd]; rfl) rfl ?_)
  refine oc (op_insert mt103 rfl rfl rfl rfl rfl rfl rfl rfl ?_); refine oc (op_insert mt103 rfl rfl rfl rfl rfl rfl rfl rfl ?_); refine oc (op_insert mt103 rfl rfl rfl rfl rfl rfl rfl rfl ?_); refine o1 (mv ?_); refine o1 (asg ?_)
  refine nx ?_; refine runs_ret ?_; refine fin_ret ?_; refine fin_o ⟨_, _, rfl, rfl, rfl⟩ [0] (.map 0) ([.mapI kindsM]) rfl rfl rfl ?_ rfl ?_ ?_
  · repeat (first | exact boz | refine bom ?_)
  · exact .refl _
  · exact ⟨rfl, rfl⟩

/-! a number, or none -/
theorem numR_ge {t : ByteArray} (hd : allDig t) (h0 : ¬ byteAt t 0 = 48) (h3 : 3 ≤ t.size) (h5 : t.size ≤ 5) : 99 < numR t t.size := by
  have d0 := hd 0 (by omega)
  have d1 := hd 1 (by omega)
  have d2 := hd 2 (by omega)
  have key : t.size = 3 ∨ t.size = 4 ∨ t.size = 5 := by omega
  rcases key with h | h | h
  · rw [h]; simp only [numR]; omega
  · have d3 := hd 3 (by omega)
    rw [h]; simp only [numR]; omega
  · have d3 := hd 3 (by omega)
    have d4 := hd 4 (by omega)
    rw [h]; simp only [numR]; omega
theorem numR_le99 {t : ByteArray} (hd : allDig t) (h2 : t.size ≤ 2) : 0 ≤ numR t t.size ∧ numR t t.size ≤ 99 := by
  have key : t.size = 0 ∨ t.size = 1 ∨ t.size = 2 := by omega
  rcases key with h | h | h
  · rw [h]; simp [numR]
  · have d0 := hd 0 (by omega)
    rw [h]; simp only [numR]; omega
  · have d0 := hd 0 (by omega)
    have d1 := hd 1 (by omega)
    rw [h]; simp only [numR]; omega
theorem badNum_of {t : ByteArray} (h : t = .empty ∨ (¬ (48 ≤ byteAt t 0 ∧ byteAt t 0 ≤ 57) ∧ ¬ byteAt t 0 = 43 ∧ ¬ byteAt t 0 = 45)) : badNum t := by
  unfold badNum
  obtain ⟨⟨l⟩⟩ := t
  cases l with
  | nil => rfl
  | cons c r =>
    have hb : byteAt ⟨⟨c :: r⟩⟩ 0 = c.toNat := rfl
    rcases h with h | ⟨h1, h2, h3⟩
    · have := congrArg ByteArray.size h; simp [ByteArray.size] at this
    · rw [hb] at h1 h2 h3
      show Lib.atoiAll (c :: r) = _
      rw [Lib.atoiAll_plain c r (by omega) (by omega)]
      unfold Lib.parseMag
      rw [if_neg (by simp)]
      unfold Lib.parseUint10
      rw [if_neg (by omega)]
      rfl
/-- a token that begins with no digit begins with no sign -/
theorem tok_first {s : ByteArray} {p : Nat} (hp : p ≤ s.size) (h0 : (tokR s p).1 ≠ .empty) : ¬ byteAt (tokR s p).1 0 = 43 ∧ ¬ byteAt (tokR s p).1 0 = 45 := by
  have hle := spanB_le wsB s p hp
  revert h0
  unfold tokR
  dsimp only
  split
  · intro h0; exact absurd rfl h0
  · rename_i hn
    have hlt : spanB wsB s p < s.size := by omega
    split
    · rename_i hc
      intro _
      rw [byteAt_extract s (by omega) (by omega), Nat.add_zero]
      omega
    · split
      · rename_i hc hnm
        have h3 := spanB_le (nameB · false) s (spanB wsB s p + 1) (by omega)
        split
        · intro h0; exact absurd rfl h0
        · intro _
          rw [byteAt_extract s (by omega) (by omega), Nat.add_zero]
          unfold nameB at hnm
          simp at hnm
          omega
      · split
        · rename_i hd35
          have h3 := spanB_le digB s (spanB wsB s p + 1) (by omega)
          have hh : byteAt s (spanB wsB s p) = 35 ∨ (48 ≤ byteAt s (spanB wsB s p) ∧ byteAt s (spanB wsB s p) ≤ 57) := by simpa [digB] using hd35
          by_cases h35 : byteAt s (spanB wsB s p) = 35
          · simp only [if_pos h35]
            split
            · intro h0; exact absurd rfl h0
            · intro _
              rw [byteAt_extract s (by omega) (by omega), Nat.add_zero]
              omega
          · simp only [if_neg h35]
            split
            · intro h0; exact absurd rfl h0
            · intro _
              rw [byteAt_extract s (by omega) (by omega), Nat.add_zero]
              omega
        · intro h0; exact absurd rfl h0

/-- an error, or none -/
def errN (b : Bool) (t : ByteArray) (e : D) : D := cond b (numErrD t e) (.v .nilIface)
theorem fl_errN {P : Program} {GL : Nat → List D} {o : Oper} {σ : St} {K : SV → List Nat → Prop} {T T' : TypeId} {x : Operand} {b : Bool} {t : ByteArray} {e : D} (hp : isIfc P T = true) (ho : o.op = .binOp .neq T x (.const .nilIface) T') (hx : evO GL σ.sl x = some (.d (errN b t e))) (hK : K (.d (.v (.bool b))) []) : FloatR P GL o σ K := by
  cases b with
  | false => exact fl_ineq_nil hp ho hx hK
  | true => exact fl_ineq_d hp ho hx hK
theorem atoiAny_spec (s : ByteArray) (q : Nat) (hq : q ≤ s.size) (hs : s.size ≤ 1099511627776) (e : D) (hg : gl (laysC172_ren.g 15) = [e]) (he : ifcD e) : TriD Tryd.prog gl 57 [.v (.string (stepTok s q))]
    (fun d => ∃ (n : Int) (b : Bool), d = .tup [.v (.int .i64 n), errN b (stepTok s q) e] ∧ 0 ≤ n ∧ ((b = false ∧ n ≤ 99 ∧ arityB (tokR s q) ∧ n = numR (tokR s q).1 (tokR s q).1.size) ∨ ((b = true ∨ 99 < n) ∧ ¬ arityB (tokR s q)))) := by
  have hat := tokR_at (s := s) hq
  by_cases h0 : (tokR s q).1 = .empty
  · have hbad : badNum (stepTok s q) := by
      rcases step_emp h0 with h | h <;> rw [h]
      · exact badNum_of (.inl rfl)
      · exact badNum_of (.inr (by decide))
    have hsz : (stepTok s q).size ≤ 281474976710656 := by
      rcases step_emp h0 with h | h <;> rw [h] <;> decide
    exact (atoiBad_spec _ e hg he hsz hbad).mono fun o b ⟨h1, d, h2, h3⟩ => ⟨h1, d, h2, 0, true, h3, by decide, .inr ⟨.inl rfl, fun h => h.1 h0⟩⟩
  · rw [(step_tok h0).1]
    have hsz := size_pos h0
    by_cases hd : 48 ≤ byteAt (tokR s q).1 0 ∧ byteAt (tokR s q).1 0 ≤ 57
    · obtain ⟨h5, had, hz⟩ := tok_dig hq h0 hd
      have hnb := numR_bound had (tokR s q).1.size (Nat.le_refl _) h5
      refine (atoi_spec (tokR s q).1 hsz h5 had).mono fun o b ⟨h1, d, h2, h3⟩ => ⟨h1, d, h2, numR (tokR s q).1 (tokR s q).1.size, false, h3, hnb.1, ?_⟩
      by_cases h22 : (tokR s q).1.size ≤ 2
      · have h99 := numR_le99 had h22
        exact .inl ⟨rfl, h99.2, ⟨h0, hd.1, hd.2, h22⟩, rfl⟩
      · have hge := numR_ge had (hz (by omega)) (by omega) h5
        exact .inr ⟨.inr hge, fun h => h22 h.2.2.2⟩
    · have hf := tok_first hq h0
      have hbad : badNum (tokR s q).1 := badNum_of (.inr ⟨hd, hf.1, hf.2⟩)
      exact (atoiBad_spec _ e hg he (by omega) hbad).mono fun o b ⟨h1, d, h2, h3⟩ => ⟨h1, d, h2, 0, true, h3, by decide, .inr ⟨.inl rfl, fun h => hd ⟨h.2.1, h.2.2.1⟩⟩⟩
end Go.Proofs.YtneaancanfpdhaaDoor
namespace Go.Proofs.YtneaancanfpdhaaDoor
open Go Go.Vd Go.RowKit
attribute [local irreducible] Runs OpsR OpR FloatR AnyR AnyO
variable {g gl : Nat → List D}

mutual
theorem size_wtL : ∀ l : Lvl, l.size ≤ wtL l
  | .mk k s args => by have := sizes_wtL args; simp only [Lvl.size, wtL]; omega
theorem sizes_wtL : ∀ l : List Lvl, sizes l ≤ wtLs l
  | [] => by simp [sizes]
  | l :: r => by have := size_wtL l; have := sizes_wtL r; simp only [sizes, wtLs]; omega
end
mutual
theorem size_wtT : ∀ t : Trm, t.size ≤ wtT t
  | .mk k n s ls args => by have := sizes_wtT args; have := sizes_wtL ls; simp only [Trm.size, wtT]; omega
theorem sizes_wtT : ∀ l : List Trm, sizesT l ≤ wtTs l
  | [] => by simp [sizesT]
  | l :: r => by have := size_wtT l; have := sizes_wtT r; simp only [sizesT, wtTs]; omega
end
theorem zero_ok : okT zeroT := ⟨by decide, by decide, by decide, by decide, fun l hl => (by cases hl), trivial⟩
theorem zero_wt : wtT zeroT = 20 := rfl

theorem names_size {s : ByteArray} : ∀ (n : Nat) {r : RS}, r.p ≤ s.size → wtS (namesR n s r).1 + 2 * r.p ≤ 1 + 2 * (namesR n s r).2.p := by
  intro n
  induction n with
  | zero => intro r hp; simp only [namesR, wtS]; omega
  | succ n ih =>
    intro r hp
    simp only [namesR]
    split
    · rename_i hc
      have h1 := nameR_le (s := s) hp
      have h2 := nameR_size (s := s) hp
      have h3 := ih h1.2
      simp only [wtS]
      cases hf : (nameR s r).2.f with
      | none =>
        have h4 := name_prog hp hf
        omega
      | some a =>
        rw [names_stop (by rintro ⟨e, _⟩; rw [hf] at e; cases e)]
        simp only [wtS]
        omega
    · simp only [wtS]; omega
theorem ctor_size {s : ByteArray} {r : RS} (hp : r.p ≤ s.size) : okT (ctorR s r).1.2 ∧ (ctorR s r).1.1.size + wtT (ctorR s r).1.2 + 100 * (takeR s ⟨#[40]⟩ r).p ≤ 20 + 100 * (ctorR s r).2.p := by
  have h1 := takeR_le (s := s) (w := ⟨#[40]⟩) hp
  have h2 := takeR_le (s := s) (w := ctorW) h1.2
  have h3 := nameR_le (s := s) h2.2
  have h4 := nameR_size (s := s) h2.2
  have h5 := term_ok (s := s) (s.size + 1) _ h3.2
  have h6 := termR_le (s := s) (s.size + 1) _ h3.2
  have h7 := takeR_le (s := s) (w := ⟨#[41]⟩) h6.2
  unfold ctorR
  refine ⟨h5.1, ?_⟩
  simp only
  omega
theorem ctors_ok {s : ByteArray} : ∀ (n : Nat) {r : RS}, r.p ≤ s.size → (∀ c ∈ (ctorsR n s r).1, okT c.2) ∧ wtC (ctorsR n s r).1 + 100 * r.p ≤ 30 + 100 * (ctorsR n s r).2.p := by
  intro n
  induction n with
  | zero => intro r hp; exact ⟨fun c hc => by simp [ctorsR] at hc, by simp only [ctorsR, wtC]; omega⟩
  | succ n ih =>
    intro r hp
    simp only [ctorsR]
    split
    · rename_i hc
      have h1 := ctorR_le (s := s) hp
      have h2 := ctor_size (s := s) hp
      have h3 := ih h1.2
      refine ⟨fun c hc => ?_, ?_⟩
      · rcases List.mem_cons.1 hc with rfl | hc
        · exact h2.1
        · exact h3.1 c hc
      · simp only [wtC]
        have h5 := takeR_le (s := s) (w := ⟨#[40]⟩) hp
        cases hf : (ctorR s r).2.f with
        | none =>
          have h4 := take_prog (s := s) (w := ⟨#[40]⟩) (r := r) (by decide) hp (take_f (name_f (term_f (take_f hf))))
          omega
        | some a =>
          rw [ctors_stop (by rintro ⟨e, _⟩; rw [hf] at e; cases e)]
          simp only [wtC]
          omega
    · exact ⟨fun c hc => by simp at hc, by simp only [wtC]; omega⟩
theorem head_good {s : ByteArray} {r : RS} (hp : r.p ≤ s.size) (hf : (declHead s r).2.2.2.f = none) :
    (declHead s r).1 ≤ 3 ∧ ¬ (declHead s r).1 = 0 ∧ (declHead s r).2.1.size + wtS (declHead s r).2.2.1 + 100 * r.p + 199 ≤ 100 * (declHead s r).2.2.2.p := by
  have h1 := takeR_le (s := s) (w := ⟨#[40]⟩) hp
  have h2 := nextR_le (s := s) h1.2
  have h3 := nameR_le (s := s) h2.2
  have h4 := takeR_le (s := s) (w := ⟨#[40]⟩) h3.2
  have h5 := namesR_le (s := s) (s.size + 2) h4.2
  have h6 := takeR_le (s := s) (w := ⟨#[41]⟩) h5.2
  have h7 := nameR_size (s := s) h2.2
  have h8 := names_size (s := s) (s.size + 2) h4.2
  unfold declHead at hf ⊢
  dsimp only at hf ⊢
  split at hf
  · exact absurd hf (fail_f _ _)
  · rename_i hk
    rw [if_neg hk]
    have g1 := name_f (take_f (names_f (take_f hf)))
    have g2 := next_f g1
    have p1 := take_prog (s := s) (w := ⟨#[40]⟩) (r := r) (by decide) hp g2
    have p2 := take_prog (s := s) (w := ⟨#[40]⟩) (r := (nameR s (nextR s (takeR s ⟨#[40]⟩ r)).2).2) (by decide) h3.2 (names_f (take_f hf))
    have p3 := take_prog (s := s) (w := ⟨#[41]⟩) (r := (namesR (s.size + 2) s (takeR s ⟨#[40]⟩ (nameR s (nextR s (takeR s ⟨#[40]⟩ r)).2).2)).2) (by decide) h5.2 hf
    refine ⟨kindF_le _, hk, ?_⟩
    simp only
    omega
theorem decl_good {s : ByteArray} {r : RS} (hp : r.p ≤ s.size) (hf : (declR s r).2.f = none) : okD (declR s r).1 ∧ 1 + wtD (declR s r).1 + 100 * r.p ≤ 100 * (declR s r).2.p := by
  have hh := declHead_le (s := s) hp
  unfold declR at hf ⊢
  dsimp only at hf ⊢
  split at hf
  · rename_i hk
    exact absurd (head_good hp hf).2.1 (fun h => h hk)
  · rename_i hk
    rw [if_neg hk]
    split at hf
    · exact absurd hf (fail_f _ _)
    · rename_i hb
      rw [if_neg hb]
      have ha := arityR_le (s := s) (k := (declHead s r).1) hh.2
      have hg := head_good hp (arity_f (tail_f hf))
      generalize hk1 : (declHead s r).1 = k at *
      generalize hn1 : (declHead s r).2.1 = nm at *
      generalize hp1 : (declHead s r).2.2.1 = ps at *
      generalize hr1 : (declHead s r).2.2.2 = r6 at *
      have har : 0 ≤ (arityR s k r6).1 ∧ (arityR s k r6).1 ≤ 99 := by
        unfold arityR
        split
        · rename_i hk3
          have hab : arityB (tokR s r6.p) := Classical.byContradiction fun h => hb ⟨hk3, h⟩
          obtain ⟨_, had, _⟩ := tok_dig hh.2 hab.1 ⟨hab.2.1, hab.2.2.1⟩
          exact numR_le99 had hab.2.2.2
        · simp
      generalize (arityR s k r6).1 = a at *
      generalize (arityR s k r6).2 = r7 at *
      have t1 := term_ok (s := s) (s.size + 1) r7 ha.2
      have t2 := termR_le (s := s) (s.size + 1) r7 ha.2
      have v2 := valR_le (s := s) (k := k) t2.2
      have v1 : okT (valR s k (termR (s.size + 1) s r7).2).1 ∧ wtT (valR s k (termR (s.size + 1) s r7).2).1 + 100 * (termR (s.size + 1) s r7).2.p ≤ 20 + 100 * (valR s k (termR (s.size + 1) s r7).2).2.p := by
        unfold valR
        split
        · exact term_ok (s := s) (s.size + 1) _ t2.2
        · exact ⟨zero_ok, by simp only [zero_wt]; omega⟩
      have c2 := consR_le (s := s) (k := k) v2.2
      have c1 : (∀ c ∈ (consR s k (valR s k (termR (s.size + 1) s r7).2).2).1, okT c.2) ∧ wtC (consR s k (valR s k (termR (s.size + 1) s r7).2).2).1 + 100 * (valR s k (termR (s.size + 1) s r7).2).2.p ≤ 30 + 100 * (consR s k (valR s k (termR (s.size + 1) s r7).2).2).2.p := by
        unfold consR
        split
        · exact ctors_ok (s := s) (s.size + 2) v2.2
        · exact ⟨fun c hc => by simp at hc, by simp only [wtC]; omega⟩
      have c3 := takeR_le (s := s) (w := ⟨#[41]⟩) c2.2
      unfold declTail
      refine ⟨⟨by omega, har.1, har.2, t1.1, v1.1, c1.1⟩, ?_⟩
      simp only [wtD]
      omega
theorem file_ok {s : ByteArray} : ∀ (n : Nat) {r : RS}, r.p ≤ s.size → (fileR n s r).2.f = none → okF (fileR n s r).1 ∧ wtF (fileR n s r).1 + 100 * r.p ≤ 100 * (fileR n s r).2.p ∧ (fileR n s r).2.p ≤ s.size := by
  intro n
  induction n with
  | zero => intro r hp _; exact ⟨fun d hd => by simp [fileR] at hd, by simp only [fileR, wtF]; omega, hp⟩
  | succ n ih =>
    intro r hp hf
    simp only [fileR] at hf ⊢
    split at hf
    · rename_i hc
      rw [if_pos hc]
      simp only at hf ⊢
      have hd : (declR s r).2.f = none := by
        cases hx : (declR s r).2.f with
        | none => rfl
        | some a =>
          rw [file_stop (by rintro ⟨e, _⟩; rw [hx] at e; cases e)] at hf
          rw [hx] at hf; cases hf
      have h1 := decl_good hp hd
      have h2 := declR_le (s := s) hp
      have h3 := ih h2.2 hf
      refine ⟨fun d hd => ?_, ?_, h3.2.2⟩
      · rcases List.mem_cons.1 hd with rfl | hd
        · exact h1.1
        · exact h3.1 d hd
      · simp only [wtF]; omega
    · rename_i hc
      rw [if_neg hc]
      exact ⟨fun d hd => by simp at hd, by simp only [wtF]; omega, hp⟩
theorem parseF_ok (s : ByteArray) : okF (parseF s).1 ∧ wtF (parseF s).1 ≤ 20000000 := by
  have h0 : okF [] ∧ wtF [] ≤ 20000000 := ⟨fun d hd => by simp at hd, by decide⟩
  unfold parseF
  split
  · exact h0
  · rename_i hs
    unfold parseAny
    split
    · rename_i hf
      obtain ⟨h1, h2, h3⟩ := file_ok (s := s) (s.size + 2) (r := ⟨0, none⟩) (Nat.zero_le _) hf
      exact ⟨h1, by simp only at h2 ⊢; omega⟩
    · exact h0

end Go.Proofs.YtneaancanfpdhaaDoor
namespace Go.Proofs.YtneaancanfpdhaaDoor
open Go Go.Vd Go.RowKit

/-! the shape of what was read -/
def goodD : Dec → Prop
  | .mk k nm ps t v a cs => okName nm ∧ (∀ w ∈ ps, okName w) ∧ goodT t ∧
    ((k = 1 ∧ v = zeroT ∧ a = 0 ∧ cs = []) ∨ (k = 2 ∧ goodT v ∧ a = 0 ∧ cs = []) ∨ (k = 3 ∧ v = zeroT ∧ 0 ≤ a ∧ a ≤ 99 ∧ ∀ c ∈ cs, okName c.1 ∧ goodT c.2))
theorem names_shape {s : ByteArray} : ∀ (n : Nat) {r : RS}, r.p ≤ s.size → (namesR n s r).2.f = none → ∀ w ∈ (namesR n s r).1, okName w := by
  intro n
  induction n with
  | zero => intro r hp _ w hw; simp [namesR] at hw
  | succ n ih =>
    intro r hp hf w hw
    simp only [namesR] at hf hw
    split at hf
    · rename_i hc
      rw [if_pos hc] at hw
      rcases List.mem_cons.1 hw with rfl | hw
      · exact nameR_shape hp (names_f hf)
      · exact ih (nameR_le (s := s) hp).2 hf w hw
    · rename_i hc
      rw [if_neg hc] at hw; simp at hw
theorem ctor_shape {s : ByteArray} {r : RS} (hp : r.p ≤ s.size) (hf : (ctorR s r).2.f = none) : okName (ctorR s r).1.1 ∧ goodT (ctorR s r).1.2 := by
  have h1 := takeR_le (s := s) (w := ⟨#[40]⟩) hp
  have h2 := takeR_le (s := s) (w := ctorW) h1.2
  have h3 := nameR_le (s := s) h2.2
  unfold ctorR at hf ⊢
  have g1 := take_f hf
  exact ⟨nameR_shape h2.2 (term_f g1), term_shape _ _ h3.2 g1 (by omega)⟩
theorem ctors_shape {s : ByteArray} : ∀ (n : Nat) {r : RS}, r.p ≤ s.size → (ctorsR n s r).2.f = none → ∀ c ∈ (ctorsR n s r).1, okName c.1 ∧ goodT c.2 := by
  intro n
  induction n with
  | zero => intro r hp _ w hw; simp [ctorsR] at hw
  | succ n ih =>
    intro r hp hf w hw
    simp only [ctorsR] at hf hw
    split at hf
    · rename_i hc
      rw [if_pos hc] at hw
      rcases List.mem_cons.1 hw with rfl | hw
      · exact ctor_shape hp (ctors_f hf)
      · exact ih (ctorR_le (s := s) hp).2 hf w hw
    · rename_i hc
      rw [if_neg hc] at hw; simp at hw
theorem head_shape {s : ByteArray} {r : RS} (hp : r.p ≤ s.size) (hf : (declHead s r).2.2.2.f = none) : okName (declHead s r).2.1 ∧ ∀ w ∈ (declHead s r).2.2.1, okName w := by
  have h1 := takeR_le (s := s) (w := ⟨#[40]⟩) hp
  have h2 := nextR_le (s := s) h1.2
  have h3 := nameR_le (s := s) h2.2
  have h4 := takeR_le (s := s) (w := ⟨#[40]⟩) h3.2
  unfold declHead at hf ⊢
  dsimp only at hf ⊢
  split at hf
  · exact absurd hf (fail_f _ _)
  · rename_i hk
    rw [if_neg hk]
    have g1 := take_f hf
    exact ⟨nameR_shape h2.2 (take_f (names_f g1)), names_shape _ h4.2 g1⟩
theorem decl_shape {s : ByteArray} {r : RS} (hp : r.p ≤ s.size) (hf : (declR s r).2.f = none) : goodD (declR s r).1 := by
  have hh := declHead_le (s := s) hp
  unfold declR at hf ⊢
  dsimp only at hf ⊢
  split at hf
  · rename_i hk
    exact absurd (head_good hp hf).2.1 (fun h => h hk)
  · rename_i hk
    rw [if_neg hk]
    split at hf
    · exact absurd hf (fail_f _ _)
    · rename_i hb
      rw [if_neg hb]
      have ha := arityR_le (s := s) (k := (declHead s r).1) hh.2
      have hfh := arity_f (tail_f hf)
      have hg := head_good hp hfh
      have hs := head_shape hp hfh
      generalize hk1 : (declHead s r).1 = k at *
      generalize hn1 : (declHead s r).2.1 = nm at *
      generalize hp1 : (declHead s r).2.2.1 = ps at *
      generalize hr1 : (declHead s r).2.2.2 = r6 at *
      have har : (¬ k = 3 → (arityR s k r6).1 = 0) ∧ (k = 3 → 0 ≤ (arityR s k r6).1 ∧ (arityR s k r6).1 ≤ 99) := by
        unfold arityR
        refine ⟨fun h => by rw [if_neg h], fun h => ?_⟩
        rw [if_pos h]
        have hab : arityB (tokR s r6.p) := Classical.byContradiction fun h2 => hb ⟨h, h2⟩
        obtain ⟨_, had, _⟩ := tok_dig hh.2 hab.1 ⟨hab.2.1, hab.2.2.1⟩
        exact numR_le99 had hab.2.2.2
      generalize (arityR s k r6).1 = a at *
      generalize (arityR s k r6).2 = r7 at *
      unfold declTail at hf ⊢
      dsimp only at hf ⊢
      have f1 := take_f hf
      have f2 := cons_f f1
      have f3 := val_f f2
      have t2 := termR_le (s := s) (s.size + 1) r7 ha.2
      have v2 := valR_le (s := s) (k := k) t2.2
      have gt := term_shape (s := s) (s.size + 1) r7 ha.2 f3 (by omega)
      refine ⟨hs.1, hs.2, gt, ?_⟩
      have hk123 : k = 1 ∨ k = 2 ∨ k = 3 := by omega
      rcases hk123 with rfl | rfl | rfl
      · refine .inl ⟨rfl, ?_, har.1 (by decide), ?_⟩
        · unfold valR; rw [if_neg (by decide)]
        · unfold consR; rw [if_neg (by decide)]
      · refine .inr (.inl ⟨rfl, ?_, har.1 (by decide), ?_⟩)
        · unfold valR at f2 ⊢
          rw [if_pos rfl] at f2 ⊢
          exact term_shape _ _ t2.2 f2 (by omega)
        · unfold consR; rw [if_neg (by decide)]
      · refine .inr (.inr ⟨rfl, ?_, (har.2 rfl).1, (har.2 rfl).2, ?_⟩)
        · unfold valR; rw [if_neg (by decide)]
        · unfold consR at f1 ⊢
          rw [if_pos rfl] at f1 ⊢
          exact ctors_shape _ v2.2 f1
theorem file_shape {s : ByteArray} : ∀ (n : Nat) {r : RS}, r.p ≤ s.size → (fileR n s r).2.f = none → ∀ d ∈ (fileR n s r).1, goodD d := by
  intro n
  induction n with
  | zero => intro r hp _ d hd; simp [fileR] at hd
  | succ n ih =>
    intro r hp hf d hd
    simp only [fileR] at hf hd
    split at hf
    · rename_i hc
      rw [if_pos hc] at hd
      have hdn : (declR s r).2.f = none := by
        cases hx : (declR s r).2.f with
        | none => rfl
        | some a =>
          rw [file_stop (by rintro ⟨e, _⟩; rw [hx] at e; cases e)] at hf
          rw [hx] at hf; cases hf
      rcases List.mem_cons.1 hd with rfl | hd
      · exact decl_shape hp hdn
      · exact ih (declR_le (s := s) hp).2 hf d hd
    · rename_i hc
      rw [if_neg hc] at hd; simp at hd

/-! reading again -/
/-- texts, each behind a blank, and the closing token -/
structure Sq (T : ByteArray) (q : Nat) (l : List ByteArray) : Prop where
  at' : At T q (tailB sp l)
  cl : At T (q + (tailB sp l).size) ⟨#[41]⟩
theorem Sq.cons {T : ByteArray} {q : Nat} {x : ByteArray} {r : List ByteArray} (h : Sq T q (x :: r)) : tokR T q = tokR T (q + 1) ∧ At T (q + 1) x ∧ Dl T (q + 1 + x.size) ∧ Sq T (q + 1 + x.size) r := by
  have s1 : sp.size = 1 := rfl
  have h1 : At T q (sp ++ x ++ tailB sp r) := h.at'
  have h2 := h.cl
  simp only [tailB, ByteArray.size_append, s1] at h2
  have a1 : At T q ⟨#[32]⟩ := h1.left.left
  have a2 := h1.left.right
  have a3 := h1.right
  simp only [ByteArray.size_append, s1] at a2 a3
  have a4 : Sq T (q + 1 + x.size) r := ⟨at_assoc a3 (by omega), at_assoc h2 (by omega)⟩
  refine ⟨tok_space a1.one.1 a1.one.2, a2, ?_, a4⟩
  cases r with
  | nil => exact dl_close (by have := a4.cl; simpa [tailB] using this)
  | cons y r =>
    have := a4.at'
    have e : At T (q + 1 + x.size) (sp ++ (y ++ tailB sp r)) := by simpa only [tailB, ByteArray.append_assoc] using this
    exact dl_space e.left
theorem Sq.nil {T : ByteArray} {q : Nat} (h : Sq T q []) : At T q ⟨#[41]⟩ := by have := h.cl; simpa [tailB] using this
theorem take_tok {T : ByteArray} {p' p : Nat} {w : ByteArray} (h : tokR T p' = (w, p, true)) : takeR T w ⟨p', none⟩ = ⟨p + w.size, none⟩ := by
  unfold takeR
  dsimp only
  rw [h, if_neg (by simp)]
theorem name_tok {T : ByteArray} {p' p : Nat} {w : ByteArray} (h : tokR T p' = (w, p, true)) (hw : okName w) : nameR T ⟨p', none⟩ = (w, ⟨p + w.size, none⟩) := by
  unfold nameR
  dsimp only
  rw [h, if_neg (by simp [hw.isName])]
theorem names_tail {T : ByteArray} : ∀ (ps : List ByteArray) (m q : Nat), (∀ w ∈ ps, okName w) → ps.length < m → Sq T q ps → namesR m T ⟨q, none⟩ = (ps, ⟨q + (tailB sp ps).size, none⟩)
  | [], m, q, _, hm, h => by
    obtain ⟨m, rfl⟩ : ∃ k, m = k + 1 := ⟨m - 1, by omega⟩
    have hpk := peek_of (at_paren h.nil (.inr rfl))
    simp only [namesR]
    rw [if_neg (by rintro ⟨_, h⟩; exact h hpk)]
    rfl
  | x :: r, m, q, hg, hm, h => by
    obtain ⟨m, rfl⟩ : ∃ k, m = k + 1 := ⟨m - 1, by omega⟩
    obtain ⟨h1, h2, h3, h4⟩ := h.cons
    have hx := hg x (by simp)
    have ht := h1.trans (at_name h2 hx h3)
    have hpk := peek_of ht
    simp only [namesR]
    rw [if_pos ⟨by trivial, by rw [hpk]; exact hx.ne_of (by decide +kernel)⟩, name_tok ht hx]
    simp only
    rw [names_tail r m (q + 1 + x.size) (fun y hy => hg y (by simp [hy])) (by simpa using hm) h4]
    have s1 : sp.size = 1 := rfl
    simp only [tailB, ByteArray.size_append, s1]
    congr 2
    omega
theorem names_print {T : ByteArray} {ps : List ByteArray} {m q : Nat} (hg : ∀ w ∈ ps, okName w) (hm : ps.length < m) (h : At T q (joinB ps sp)) (hc : At T (q + (joinB ps sp).size) ⟨#[41]⟩) : namesR m T ⟨q, none⟩ = (ps, ⟨q + (joinB ps sp).size, none⟩) := by
  cases ps with
  | nil =>
    have := names_tail (T := T) [] m q hg hm ⟨h, hc⟩
    exact this
  | cons x r =>
    obtain ⟨m, rfl⟩ : ∃ k, m = k + 1 := ⟨m - 1, by omega⟩
    rw [joinB_cons] at h hc ⊢
    have h2 := h.left
    have h3 := h.right
    rw [ByteArray.size_append] at hc ⊢
    have h4 : Sq T (q + x.size) r := ⟨h3, at_assoc hc (by omega)⟩
    have hdl : Dl T (q + x.size) := by
      cases r with
      | nil => exact dl_close h4.nil
      | cons y r =>
        have e : At T (q + x.size) (sp ++ (y ++ tailB sp r)) := by have := h4.at'; simpa only [tailB, ByteArray.append_assoc] using this
        exact dl_space e.left
    have hx := hg x (by simp)
    have ht := at_name h2 hx hdl
    have hpk := peek_of ht
    simp only [namesR]
    rw [if_pos ⟨by trivial, by rw [hpk]; exact hx.ne_of (by decide +kernel)⟩, name_tok ht hx]
    simp only
    rw [names_tail r m (q + x.size) (fun y hy => hg y (by simp [hy])) (by simpa using hm) h4]
    simp only
    congr 2
    omega
theorem ctorT_eq (c : ByteArray × Trm) : ctorT c = ⟨#[40]⟩ ++ ctorW ++ tailB sp [c.1, wrT c.2] ++ ⟨#[41]⟩ := by
  have h1 : (⟨#[40, 99, 116, 111, 114, 32]⟩ : ByteArray) = ⟨#[40]⟩ ++ ctorW ++ sp := rfl
  have h3 : (⟨#[32]⟩ : ByteArray) = sp := rfl
  simp only [ctorT, tailB, h1, h3, ByteArray.append_empty, ByteArray.append_assoc]
theorem ctorW_ok : okName ctorW := okName_lit (by decide +kernel)
/-- a constructor -/
theorem ctor_print {T : ByteArray} {c : ByteArray × Trm} {p p' : Nat} (hn : okName c.1) (hg : goodT c.2) (ht : tokR T p' = tokR T p) (h : At T p (ctorT c)) : tokR T p' = (⟨#[40]⟩, p, true) ∧ ctorR T ⟨p', none⟩ = (c, ⟨p + (ctorT c).size, none⟩) := by
  have s40 : (ByteArray.mk #[40]).size = 1 := rfl
  have s41 : (ByteArray.mk #[41]).size = 1 := rfl
  have s4 : ctorW.size = 4 := rfl
  rw [ctorT_eq] at h ⊢
  have a1 := h.left.left.left
  have a2 := h.left.left.right
  have a3 := h.left.right
  have a4 := h.right
  simp only [ByteArray.size_append, s40, s4] at a2 a3 a4
  have hsq : Sq T (p + (1 + 4)) [c.1, wrT c.2] := ⟨a3, at_assoc a4 (by omega)⟩
  obtain ⟨b1, b2, b3, b4⟩ := hsq.cons
  obtain ⟨d1, d2, d3, d4⟩ := b4.cons
  have hdw : Dl T (p + 1 + ctorW.size) := by
    have e : At T (p + (1 + 4)) (sp ++ (c.1 ++ tailB sp [wrT c.2])) := by simpa only [tailB, ByteArray.append_assoc] using a3
    rw [s4, show p + 1 + 4 = p + (1 + 4) by omega]
    exact dl_space e.left
  have t1 := ht.trans (at_paren a1 (.inl rfl))
  have t2 := at_name a2 ctorW_ok hdw
  have t3 := b1.trans (at_name b2 hn b3)
  have g1 := take_tok t1
  rw [s40] at g1
  have g2 := take_tok t2
  rw [s4, show p + 1 + 4 = p + (1 + 4) by omega] at g2
  have g3 := name_tok t3 hn
  have g4 := term_print (T := T) (T.size + 1) c.2 (p + (1 + 4) + 1 + c.1.size + 1) (p + (1 + 4) + 1 + c.1.size) hg (by have := trm_ge _ hg; have := d2.le; omega) d1 d2 d3
  have g5 := take_at d4.nil
  refine ⟨t1, ?_⟩
  unfold ctorR
  simp only [g1, g2, g3, g4, g5]
  have s1 : sp.size = 1 := rfl
  simp only [tailB, ByteArray.size_append, s40, s4, s41, s1, ByteArray.size_empty]
  congr 2
  omega
theorem ctors_print {T : ByteArray} : ∀ (cs : List (ByteArray × Trm)) (m q : Nat), (∀ c ∈ cs, okName c.1 ∧ goodT c.2) → cs.length < m → Sq T q (cs.map ctorT) → ctorsR m T ⟨q, none⟩ = (cs, ⟨q + (tailB sp (cs.map ctorT)).size, none⟩)
  | [], m, q, _, hm, h => by
    obtain ⟨m, rfl⟩ : ∃ k, m = k + 1 := ⟨m - 1, by omega⟩
    have hpk := peek_of (at_paren h.nil (.inr rfl))
    simp only [ctorsR]
    rw [if_neg (by rintro ⟨_, h⟩; rw [hpk] at h; exact absurd h (by decide))]
    rfl
  | x :: r, m, q, hg, hm, h => by
    obtain ⟨m, rfl⟩ : ∃ k, m = k + 1 := ⟨m - 1, by omega⟩
    obtain ⟨h1, h2, h3, h4⟩ := h.cons
    have hx := hg x (by simp)
    obtain ⟨t1, t2⟩ := ctor_print hx.1 hx.2 h1 h2
    have hpk := peek_of t1
    simp only [ctorsR]
    rw [if_pos ⟨by trivial, hpk⟩, t2]
    simp only
    rw [ctors_print r m (q + 1 + (ctorT x).size) (fun y hy => hg y (by simp [hy])) (by simpa using hm) h4]
    have s1 : sp.size = 1 := rfl
    simp only [List.map_cons, tailB, ByteArray.size_append, s1]
    congr 2
    omega
theorem digR_size2 {n : Nat} (h : n ≤ 99) : (digR n).size ≤ 2 := by
  have key : ∀ m : Nat, (ByteArray.mk #[UInt8.ofNat (48 + m % 10)]).size = 1 := fun _ => rfl
  by_cases h1 : n < 10
  · rw [digR_one h1, key]; omega
  rw [digR_more h1, ByteArray.size_append, key, digR_one (by omega), key]; omega
/-- a term behind a blank -/
theorem term_sq {T : ByteArray} {q : Nat} {t : Trm} {r : List ByteArray} (hg : goodT t) (h : Sq T q (wrT t :: r)) : termR (T.size + 1) T ⟨q, none⟩ = (t, ⟨q + 1 + (wrT t).size, none⟩) ∧ Sq T (q + 1 + (wrT t).size) r := by
  obtain ⟨h1, h2, h3, h4⟩ := h.cons
  exact ⟨term_print (T := T) (T.size + 1) t (q + 1) q hg (by have := trm_ge t hg; have := h2.le; omega) h1 h2 h3, h4⟩
theorem tailB_cons (x : ByteArray) (r : List ByteArray) : (tailB sp (x :: r)).size = 1 + x.size + (tailB sp r).size := by
  have s1 : sp.size = 1 := rfl
  simp only [tailB, ByteArray.size_append, s1]
theorem ar_print {T : ByteArray} {k q : Nat} {a : Int} {rest : List ByteArray} (h : Sq T q (arF k a ++ rest)) (h3 : k = 3 → 0 ≤ a ∧ a ≤ 99) (h0 : ¬ k = 3 → a = 0) :
    ∃ q', arityR T k ⟨q, none⟩ = (a, ⟨q', none⟩) ∧ Sq T q' rest ∧ (k = 3 → arityB (tokR T q)) ∧ q' + (tailB sp rest).size = q + (tailB sp (arF k a ++ rest)).size := by
  by_cases hk : k = 3
  · subst hk
    obtain ⟨hp, hl⟩ := h3 rfl
    obtain ⟨m, rfl⟩ : ∃ m : Nat, a = m := ⟨a.toNat, by omega⟩
    have he : arF ((3 : Nat) : Int) ((m : Nat) : Int) = [digR m] := rfl
    rw [he, List.singleton_append] at h ⊢
    obtain ⟨b1, b2, b3, b4⟩ := h.cons
    have ht := b1.trans (at_num (by omega) b2 b3)
    obtain ⟨f1, f2, f3, _, _⟩ := digR_facts m
    have hn := next_at ht f1
    refine ⟨q + 1 + (digR m).size, ?_, b4, fun _ => ?_, ?_⟩
    · unfold arityR
      rw [if_pos rfl, hn]
      simp only
      rw [ht]
      simp only
      rw [f3]
    · rw [ht]
      exact ⟨ne_of_size f1, (f2 0 f1).1, (f2 0 f1).2, digR_size2 (by omega)⟩
    · rw [tailB_cons]; omega
  · have he : arF (k : Int) a = [] := if_neg (by omega)
    rw [he, List.nil_append] at h ⊢
    refine ⟨q, ?_, h, fun e => absurd e hk, rfl⟩
    unfold arityR
    rw [if_neg hk, h0 hk]
theorem val_print {T : ByteArray} {k q : Nat} {v : Trm} {rest : List ByteArray} (h : Sq T q (valF k v ++ rest)) (h2 : k = 2 → goodT v) (h0 : ¬ k = 2 → v = zeroT) :
    ∃ q', valR T k ⟨q, none⟩ = (v, ⟨q', none⟩) ∧ Sq T q' rest ∧ q' + (tailB sp rest).size = q + (tailB sp (valF k v ++ rest)).size := by
  by_cases hk : k = 2
  · subst hk
    have he : valF ((2 : Nat) : Int) v = [wrT v] := rfl
    rw [he, List.singleton_append] at h ⊢
    obtain ⟨b1, b2⟩ := term_sq (h2 rfl) h
    refine ⟨q + 1 + (wrT v).size, ?_, b2, ?_⟩
    · unfold valR
      rw [if_pos rfl, b1]
    · rw [tailB_cons]; omega
  · have he : valF (k : Int) v = [] := if_neg (by omega)
    rw [he, List.nil_append] at h ⊢
    refine ⟨q, ?_, h, rfl⟩
    unfold valR
    rw [if_neg hk, h0 hk]
theorem tailB_len (l : List ByteArray) : l.length ≤ (tailB sp l).size := by
  induction l with
  | nil => simp
  | cons x r ih => rw [tailB_cons]; simp only [List.length_cons]; omega
theorem con_print {T : ByteArray} {k q : Nat} {cs : List (ByteArray × Trm)} (h : Sq T q (cs.map ctorT)) (h3 : k = 3 → ∀ c ∈ cs, okName c.1 ∧ goodT c.2) (h0 : ¬ k = 3 → cs = []) :
    consR T k ⟨q, none⟩ = (cs, ⟨q + (tailB sp (cs.map ctorT)).size, none⟩) := by
  unfold consR
  by_cases hk : k = 3
  · rw [if_pos hk]
    have h1 := tailB_len (cs.map ctorT)
    rw [List.length_map] at h1
    have h2 := h.at'.le
    exact ctors_print cs (T.size + 2) q (h3 hk) (by omega) h
  · rw [if_neg hk, h0 hk]; rfl
theorem kwF_ok {k : Nat} (h : k = 1 ∨ k = 2 ∨ k = 3) : okName (kwF k) ∧ kindF (kwF k) = k := by
  rcases h with rfl | rfl | rfl <;> exact ⟨okName_lit (by decide +kernel), by decide⟩
theorem decl_print {T : ByteArray} {d : Dec} {p p' : Nat} (hg : goodD d) (ht : tokR T p' = tokR T p) (h : At T p (wrD d)) : tokR T p' = (⟨#[40]⟩, p, true) ∧ declR T ⟨p', none⟩ = (d, ⟨p + (wrD d).size, none⟩) := by
  have s40 : (ByteArray.mk #[40]).size = 1 := rfl
  have s41 : (ByteArray.mk #[41]).size = 1 := rfl
  have s1 : sp.size = 1 := rfl
  obtain ⟨k, nm, ps, t, v, a, cs⟩ := d
  obtain ⟨hn, hps, hgt, hk⟩ := hg
  have hk123 : k = 1 ∨ k = 2 ∨ k = 3 := by rcases hk with ⟨h, _⟩ | ⟨h, _⟩ | ⟨h, _⟩ <;> omega
  obtain ⟨k, rfl⟩ : ∃ j : Nat, k = j := ⟨k.toNat, by omega⟩
  obtain ⟨hkn, hkk⟩ := kwF_ok (k := k) (by omega)
  have hw : wrD (.mk k nm ps t v a cs) = ⟨#[40]⟩ ++ (kwF k ++ tailB sp (nm :: paramT ps :: (arF k a ++ [wrT t] ++ valF k v ++ cs.map ctorT))) ++ ⟨#[41]⟩ := by
    unfold wrD partsF headF
    simp only [List.cons_append, List.nil_append, joinB_cons]
  rw [hw] at h ⊢
  have a1 := h.left.left
  have a2 := h.left.right.left
  have a3 := h.left.right.right
  have a4 := h.right
  simp only [ByteArray.size_append, s40] at a2 a3 a4
  have hsq : Sq T (p + 1 + (kwF k).size) (nm :: paramT ps :: (arF k a ++ [wrT t] ++ valF k v ++ cs.map ctorT)) := ⟨a3, at_assoc a4 (by omega)⟩
  have hdw : Dl T (p + 1 + (kwF k).size) := by
    have e : At T (p + 1 + (kwF k).size) (sp ++ (nm ++ tailB sp (paramT ps :: (arF k a ++ [wrT t] ++ valF k v ++ cs.map ctorT)))) := by have := hsq.at'; rw [tailB] at this; simpa only [ByteArray.append_assoc] using this
    exact dl_space e.left
  obtain ⟨b1, b2, b3, b4⟩ := hsq.cons
  obtain ⟨d1, d2, d3, d4⟩ := b4.cons
  have t1 := ht.trans (at_paren a1 (.inl rfl))
  have t2 := at_name a2 hkn hdw
  have t3 := b1.trans (at_name b2 hn b3)
  refine ⟨t1, ?_⟩
  have g1 := take_tok t1
  rw [s40] at g1
  have g2 := next_at t2 hkn.ne
  have g3 := name_tok t3 hn
  -- the parameters
  have p1 : At T (p + 1 + (kwF k).size + 1 + nm.size + 1) (⟨#[40]⟩ ++ joinB ps sp ++ ⟨#[41]⟩) := d2
  have q1 := p1.left.left
  have q2 := p1.left.right
  have q3 := p1.right
  simp only [ByteArray.size_append, s40] at q2 q3
  have t4 := d1.trans (at_paren q1 (.inl rfl))
  have g4 := take_tok t4
  rw [s40] at g4
  have q3' : At T (p + 1 + (kwF k).size + 1 + nm.size + 1 + 1 + (joinB ps sp).size) ⟨#[41]⟩ := at_assoc q3 (by omega)
  have hjl : ps.length < T.size + 2 := by
    have h1 := wtS_len ps
    have h2 : wtS ps ≤ (joinB ps sp).size + 1 := by
      cases ps with
      | nil => simp [wtS]
      | cons x r => rw [joinB_cons, ByteArray.size_append, tailB_size]; simp only [wtS]; omega
    have h3 := q2.le
    omega
  have g5 := names_print (m := T.size + 2) hps hjl q2 q3'
  have g6 := take_at q3'
  have hpar : (paramT ps).size = 1 + (joinB ps sp).size + 1 := by simp only [paramT, ByteArray.size_append, s40, s41]
  have hhead : declHead T ⟨p', none⟩ = (k, nm, ps, ⟨p + 1 + (kwF k).size + 1 + nm.size + 1 + (paramT ps).size, none⟩) := by
    have hkk' : kindF (tokR T (RS.mk (p + 1) none).p).1 = k := by show kindF (tokR T (p + 1)).1 = k; rw [t2]; exact hkk
    have h3' : (nameR T (nextR T ⟨p + 1, none⟩).2).1 = nm := by rw [g2]; simp only; rw [g3]
    have h5' : namesR (T.size + 2) T (takeR T ⟨#[40]⟩ (nameR T (nextR T ⟨p + 1, none⟩).2).2) = (ps, ⟨p + 1 + (kwF k).size + 1 + nm.size + 1 + 1 + (joinB ps sp).size, none⟩) := by rw [g2]; simp only; rw [g3]; simp only; rw [g4, g5]
    rw [declHead_eq g1 hkk' (by omega) h3' h5', g6]
    rw [hpar]
    congr 4
    omega
  have hend : p + (⟨#[40]⟩ ++ (kwF k ++ tailB sp (nm :: paramT ps :: (arF k a ++ [wrT t] ++ valF k v ++ cs.map ctorT))) ++ ⟨#[41]⟩ : ByteArray).size = p + 1 + (kwF k).size + 1 + nm.size + 1 + (paramT ps).size + (tailB sp (arF k a ++ [wrT t] ++ valF k v ++ cs.map ctorT)).size + 1 := by
    simp only [ByteArray.size_append, tailB_cons, s40, s41]; omega
  rw [hend]
  generalize p + 1 + (kwF k).size + 1 + nm.size + 1 + (paramT ps).size = q6 at d4 hhead ⊢
  obtain ⟨q7, r1, r2, r3, r4⟩ := ar_print (k := k) (a := a) (rest := [wrT t] ++ (valF k v ++ cs.map ctorT)) (by simpa only [List.append_assoc] using d4) (fun h => by rcases hk with ⟨h1, _⟩ | ⟨h1, _⟩ | ⟨_, _, h1, h2, _⟩ <;> omega) (fun h => by rcases hk with ⟨_, _, h1, _⟩ | ⟨_, _, h1, _⟩ | ⟨h1, _⟩ <;> omega)
  obtain ⟨u1, u2⟩ := term_sq hgt r2
  obtain ⟨q8, v1, v2, v3⟩ := val_print (k := k) (v := v) u2 (fun h => by rcases hk with ⟨h1, _⟩ | ⟨_, h1, _⟩ | ⟨h1, _⟩ <;> first | omega | exact h1) (fun h => by rcases hk with ⟨_, h1, _⟩ | ⟨h1, _⟩ | ⟨_, h1, _⟩ <;> first | omega | exact h1)
  have w1 := con_print (k := k) v2 (fun h => by rcases hk with ⟨h1, _⟩ | ⟨h1, _⟩ | ⟨_, _, _, _, h1⟩ <;> first | omega | exact h1) (fun h => by rcases hk with ⟨_, _, _, h1⟩ | ⟨_, _, _, h1⟩ | ⟨h1, _⟩ <;> first | omega | exact h1)
  rw [declR_good hhead (by omega) (fun h => h.2 (r3 h.1)) r1 u1 v1 w1, take_at v2.cl]
  have hz := tailB_cons (wrT t) (valF k v ++ cs.map ctorT)
  simp only [List.append_assoc] at r4 hz ⊢
  rw [show ([wrT t] ++ (valF k v ++ List.map ctorT cs)) = wrT t :: (valF k v ++ List.map ctorT cs) from rfl] at r4 ⊢
  congr 2
  omega
/-- a file -/
theorem file_print {T : ByteArray} : ∀ (ds : List Dec) (n p p' : Nat), (∀ d ∈ ds, goodD d) → ds.length < n → tokR T p' = tokR T p → At T p (wrF ds) → p + (wrF ds).size = T.size → ∃ q, fileR n T ⟨p', none⟩ = (ds, ⟨q, none⟩)
  | [], n, p, p', _, hn, ht, _, he => by
    obtain ⟨n, rfl⟩ : ∃ k, n = k + 1 := ⟨n - 1, by omega⟩
    have hp : p = T.size := by simpa [wrF] using he
    have h1 := ht.trans (tok_end (spanB_end (fun h => absurd h.1 (by omega)) |>.trans (spanB_end (fun h => absurd h.1 (by omega))).symm) hp)
    refine ⟨p', ?_⟩
    simp only [fileR]
    rw [if_neg]
    rintro ⟨_, h⟩
    refine h ⟨?_, ?_⟩ <;> (simp only; rw [h1])
  | d :: r, n, p, p', hg, hn, ht, h, he => by
    obtain ⟨n, rfl⟩ : ∃ k, n = k + 1 := ⟨n - 1, by omega⟩
    have s10 : (ByteArray.mk #[10]).size = 1 := rfl
    have h' : At T p (wrD d ++ ⟨#[10]⟩ ++ wrF r) := h
    have a1 := h'.left.left
    have a2 := h'.left.right
    have a3 := h'.right
    simp only [ByteArray.size_append, s10] at a3
    simp only [wrF, ByteArray.size_append, s10] at he
    obtain ⟨t1, t2⟩ := decl_print (hg d (by simp)) ht a1
    have hnl := tok_nl a2.one.1 a2.one.2
    obtain ⟨q, hq⟩ := file_print r n (p + (wrD d).size + 1) (p + (wrD d).size) (fun x hx => hg x (by simp [hx])) (by simpa using hn) hnl (at_assoc a3 (by omega)) (by omega)
    refine ⟨q, ?_⟩
    simp only [fileR]
    rw [if_pos ⟨by trivial, fun h => by
      have := h.2
      simp only at this
      rw [t1] at this
      exact absurd this (show (⟨#[40]⟩ : ByteArray) ≠ .empty by decide)⟩, t2]
    simp only
    rw [hq]
theorem wrF_len : ∀ ds : List Dec, ds.length ≤ (wrF ds).size
  | [] => by simp
  | d :: r => by
    have := wrF_len r
    have s10 : (ByteArray.mk #[10]).size = 1 := rfl
    simp only [wrF, ByteArray.size_append, s10, List.length_cons]; omega
/-- what is printed of a file is read as that file -/
theorem reads_again {ds : List Dec} (hg : ∀ d ∈ ds, goodD d) (hs : (wrF ds).size ≤ 200000) : parseF (wrF ds) = (ds, 0, 0) := by
  have hl := wrF_len ds
  obtain ⟨q, hq⟩ := file_print (T := wrF ds) ds ((wrF ds).size + 2) 0 0 hg (by omega) rfl (At.self _) (by omega)
  unfold parseF
  rw [if_neg (by omega), parseAny_good hq rfl]
theorem parseF_shape {s : ByteArray} (h : (parseF s).2.1 = 0) : ∀ d ∈ (parseF s).1, goodD d := by
  unfold parseF at h ⊢
  split at h
  · exact absurd h (by decide)
  · rename_i hs
    rw [if_neg hs]
    unfold parseAny at h ⊢
    split at h
    · rename_i hf
      simp only
      exact file_shape _ (Nat.zero_le _) hf
    · exact absurd (show (1 : Int) = 0 from h) (by decide)
end Go.Proofs.YtneaancanfpdhaaDoor
namespace Go.Proofs.YtneaancanfpdhaaDoor
open Go Go.Vd Go.RowKit
attribute [local irreducible] Runs OpsR OpR FloatR AnyR AnyO
variable {g gl : Nat → List D}

theorem names_stepN {s : ByteArray} {r0 : RS} {q m : Nat} {acc : List ByteArray} (hinv : q ≤ s.size ∧ acc.length + m = s.size + 2 ∧ s.size - q < m ∧ namesR (s.size + 2) s r0 = (acc ++ (namesR m s ⟨q, none⟩).1, (namesR m s ⟨q, none⟩).2))
    (h : ¬ peekR s ⟨q, none⟩ = ⟨#[41]⟩) (hn : isNameB (tokR s q).1 = true) :
    stepAt s q ≤ s.size ∧ (acc ++ [(tokR s q).1]).length + (m - 1) = s.size + 2 ∧ s.size - stepAt s q < m - 1 ∧ namesR (s.size + 2) s r0 = (acc ++ [(tokR s q).1] ++ (namesR (m - 1) s ⟨stepAt s q, none⟩).1, (namesR (m - 1) s ⟨stepAt s q, none⟩).2) := by
  have := names_step (r' := ⟨q, none⟩) (x := (tokR s q).1) ⟨hinv.1, hinv.2.1, fun _ => hinv.2.2.1, hinv.2.2.2⟩ ⟨rfl, h⟩ (by rw [name_yes hn])
  rw [name_yes hn] at this
  exact ⟨this.1, this.2.1, this.2.2.1 rfl, this.2.2.2⟩
theorem ctors_stepN {s : ByteArray} {r0 : RS} {q qb m : Nat} {acc : List (ByteArray × Trm)} {x : ByteArray × Trm} (hinv : q ≤ s.size ∧ acc.length + m = s.size + 2 ∧ s.size - q < m ∧ ctorsR (s.size + 2) s r0 = (acc ++ (ctorsR m s ⟨q, none⟩).1, (ctorsR m s ⟨q, none⟩).2))
    (h : peekR s ⟨q, none⟩ = ⟨#[40]⟩) (hX : ctorR s ⟨q, none⟩ = (x, ⟨qb, none⟩)) :
    qb ≤ s.size ∧ (acc ++ [x]).length + (m - 1) = s.size + 2 ∧ s.size - qb < m - 1 ∧ ctorsR (s.size + 2) s r0 = (acc ++ [x] ++ (ctorsR (m - 1) s ⟨qb, none⟩).1, (ctorsR (m - 1) s ⟨qb, none⟩).2) := by
  have := ctors_step (r' := ⟨q, none⟩) (x := x) ⟨hinv.1, hinv.2.1, fun _ => hinv.2.2.1, hinv.2.2.2⟩ ⟨rfl, h⟩ (by rw [hX])
  rw [hX] at this
  exact ⟨this.1, this.2.1, this.2.2.1 rfl, this.2.2.2⟩
theorem ctorR_eq {s : ByteArray} {q q1 q2 q3 q4 : Nat} {nm : ByteArray} {t : Trm} (h1 : takeR s ⟨#[40]⟩ ⟨q, none⟩ = ⟨q1, none⟩) (h2 : takeR s ctorW ⟨q1, none⟩ = ⟨q2, none⟩) (h3 : nameR s ⟨q2, none⟩ = (nm, ⟨q3, none⟩)) (h4 : termR (s.size + 1) s ⟨q3, none⟩ = (t, ⟨q4, none⟩)) : ctorR s ⟨q, none⟩ = ((nm, t), takeR s ⟨#[41]⟩ ⟨q4, none⟩) := by
  unfold ctorR
  simp only [h1, h2, h3, h4]

theorem fread_spec (s : ByteArray) (hs : s.size ≤ 1099511627776) (e : D) (hg : (glQ g) (laysC172_ren.g 15) = [e]) (he : ifcD e) (p : Nat) (hp : p ≤ s.size) :
    Tri Tryd.prog (glQ g) 37 [scA s p] [.blk 0 0] (DrQ s (declR s ⟨p, none⟩)) := by
  have hsl := stepAt_le hp
  unfold scA scO
  refine triS_of_runs Tryd.func37 rfl Tryd.ntmps37 (rs := [.cell 2 80]) rfl rfl rfl 1 rfl ?_
  refine sr ?_; refine oc (T := fun _ => False) (alc ti80 ?_ (hl := by simp only [List.length_cons, List.length_nil, Nat.reduceAdd]; rfl)); refine nx ?_; refine sr ?_; refine o1 (mv ?_)
  refine oc (op_callo ca59 rfl rfl rfl rfl (stake_spec s hs (stepAt s p) hsl.2 (stepTok s p) ⟨#[40]⟩ (tokR s p).2.1) [0] (boc .nil) rfl rfl rfl rfl (fir (fir .nil)) (fun s ob' hq => ?_) (fun s ob' hq => ?_))
  rotate_left
  · rcases hq with ⟨_, hq1, _⟩ | ⟨htk, hq1, rfl⟩
    · cases hq1
    cases hq1; refine ⟨_, _, _, _, _, rfl, rfl, rfl, rfl, rfl, ?_⟩; refine leave_d ([0]) ([.dead]) rfl rfl rfl (by repeat (first | exact boz | refine bod ?_)) ?_
    exact DrQ.bad (decl_take (takeR_no (fun e => htk ((step_is (by decide) (by decide)).2 e)))) ⟨rfl, rfl⟩
  rcases hq with ⟨htk, hq1, rfl⟩ | ⟨_, hq1, _⟩
  rotate_left
  · cases hq1
  cases hq1
  have c1 : takeR s ⟨#[40]⟩ ⟨p, none⟩ = ⟨stepAt s p, none⟩ := takeR_yes (by decide) ((step_is (by decide) (by decide)).1 htk)
  have e1 := hsl.2
  generalize hq1' : stepAt s p = q1 at c1 e1 ⊢
  unfold scA scO
  refine ⟨_, _, _, _, _, rfl, rfl, rfl, rfl, rfl, ?_⟩; refine nx ?_; refine runs_seq ?_; refine kp [2, 0] ?_
  apply runs_cut_o (ι := Unit) (fun _ => [(3, .blk 2 0)]) (fun _ => [scA s q1, .cells [.d (.v (.int .i64 0)), .d (.v (.string .empty)), .d (.v (.slice none 0 0)), .d (.v (.int .i64 0)), .d (.v (.int .i64 0)), .d (.v (.string .empty)), .d (.v (.slice none 0 0)), .d (.v (.slice none 0 0)), .d (.v (.int .i64 0)), .d (.v (.int .i64 0)), .d (.v (.string .empty)), .d (.v (.slice none 0 0)), .d (.v (.slice none 0 0)), .d (.v (.int .i64 0)), .d (.v (.slice none 0 0))] 80, .cells [.d (.v (.int .i64 ((kindsM (stepTok s q1)).getD 0))), .d (.v (.string .empty)), .d (.v (.slice none 0 0)), .d (.v (.int .i64 0)), .d (.v (.int .i64 0)), .d (.v (.string .empty)), .d (.v (.slice none 0 0)), .d (.v (.slice none 0 0)), .d (.v (.int .i64 0)), .d (.v (.int .i64 0)), .d (.v (.string .empty)), .d (.v (.slice none 0 0)), .d (.v (.slice none 0 0)), .d (.v (.int .i64 0)), .d (.v (.slice none 0 0))] 80]) [2, 0] (fun _ => True)
  case hk => exact rfl
  case h1 =>
    refine a_start ?_ (hm := by exact mixed); refine A1 1 rfl (mv ⟨_, rfl, ?_⟩); refine A1 2 rfl (ncb ⟨_, rfl, ?_⟩); refine A1 3 rfl (fdb ti76 ⟨_, rfl, ?_⟩); refine A1 4 rfl (ldb ti9 ⟨_, rfl, ?_⟩)
    refine any_many (rs := [0, 7]) (by kernel_rfl) rfl ⟨?_, ?_, trivial⟩
    · skip
      refine A4 0 rfl (ck ca63 rfl rfl (kinds_spec) [] rfl .nil .nil ?_); refine any_many (rs := [5, 7]) (by kernel_rfl) rfl ⟨?_, ?_, trivial⟩
      · skip
        refine A4 5 rfl (op_lookup1 mt103 rfl rfl rfl rfl rfl rfl ?_); refine A1 6 rfl (bld ti80 ⟨_, rfl, ?_⟩); refine A2 (T := fun _ => False) 7 rfl (alc ti80 ?_ (hl := by simp only [List.length_cons, List.length_nil, Nat.reduceAdd]; rfl))
        refine A2 8 rfl (sto ti80 ?_); refine a_end ?_; refine seq_back ?_; refine back_c (()) rfl ?_ ([0, 1, 3]) ?_
        · trivial
        · refine mo ?_ (sly (sly (sly slz)))
          repeat (first | exact boz | refine boc ?_)
      · skip
        refine A4 (T := fun _ => False) 7 rfl (alc ti80 ?_ (hl := by simp only [List.length_cons, List.length_nil, Nat.reduceAdd]; rfl)); refine A2 5 rfl (op_lookup1 mt103 rfl rfl rfl rfl rfl rfl ?_); refine A1 6 rfl (bld ti80 ⟨_, rfl, ?_⟩)
        refine A2 8 rfl (sto ti80 ?_); refine a_end ?_; refine seq_back ?_; refine back_c (()) rfl ?_ ([0, 1, 3]) ?_
        · trivial
        · refine mo ?_ (sly (sly (sly slz)))
          repeat (first | exact boz | refine boc ?_)
    · skip
      refine A4 (T := fun _ => False) 7 rfl (alc ti80 ?_ (hl := by simp only [List.length_cons, List.length_nil, Nat.reduceAdd]; rfl)); refine A2 0 rfl (ck ca63 rfl rfl (kinds_spec) [] rfl .nil .nil ?_)
      refine A2 5 rfl (op_lookup1 mt103 rfl rfl rfl rfl rfl rfl ?_); refine A1 6 rfl (bld ti80 ⟨_, rfl, ?_⟩); refine A2 8 rfl (sto ti80 ?_); refine a_end ?_; refine seq_back ?_; refine back_c (()) rfl ?_ ([0, 1, 2]) ?_
      · trivial
      · refine mo ?_ (sly (sly (sly slz)))
        repeat (first | exact boz | refine boc ?_)
  case h2 =>
    rintro _ hcut
    try dsimp only at hcut
    refine kp [3, 2, 0] ?_; refine runs_seq ?_; refine runs_seq ?_
    rw [kindsM_eq, step_kindF]
    have hkl := kindF_le (tokR s q1).1
    generalize hk : kindF (tokR s q1).1 = k at hkl ⊢
    refine runs_region ?_; refine o1 (fdb ti80 ?_); refine o1 (ldb ti3 ?_); refine o1 (ieq ?_); refine nx ?_; refine cd (fun h3 => ?_) (fun h3 => ?_)
    · (try simp only [nrm, Int.reduceEq, Int.reduceNe, Int.reduceLT, Int.reduceLE] at h3)
      refine runs_region ?_; refine o1 (mv ?_); refine oc (op_callo ca58 rfl rfl rfl rfl (sfail_spec s (stepAt s q1) (stepTok s q1) (tokR s q1).2.1) [0] (boc .nil) rfl rfl rfl rfl (fir .nil) (fun s ob' hq => ?_) (fun s ob' hq => ?_))
      · cases hq.1
      obtain ⟨hq1, rfl⟩ := hq; cases hq1; refine ⟨_, _, _, _, _, rfl, rfl, rfl, rfl, rfl, ?_⟩; refine leave_d ([0]) ([.dead]) rfl rfl rfl (by repeat (first | exact boz | refine bod ?_)) ?_
      exact DrQ.bad (a := (tokR s q1).2.1) (by rw [declR_none c1 (by show kindF (tokR s q1).1 = 0; omega)]; rfl) ⟨rfl, rfl⟩
    (try simp only [nrm, Int.reduceEq, Int.reduceNe, Int.reduceLT, Int.reduceLE] at h3); refine runs_skip ?_; refine seq_normal ?_; refine runs_seq ?_
    have hk0 : ¬ k = 0 := (by omega)
    have hkk : ¬ kindF (tokR s (RS.mk q1 none).p).1 = 0 := (by show ¬ kindF (tokR s q1).1 = 0; omega)
    have c2 := nextR_eq (kindF_ne (s := s) (p := q1) hkk)
    have e2 := (stepAt_le e1).2
    refine runs_region ?_; refine o1 (mv ?_); refine oc (ck ca55 rfl rfl (step_spec s hs (stepAt s q1) e2 (stepTok s q1) (tokR s q1).2.1) [0] rfl (boc .nil) (fir .nil) ?_); refine nx ?_; refine runs_seq ?_; refine kp [3, 2, 0] ?_
    generalize hq2 : stepAt s q1 = q2 at c2 e2 ⊢
    have e3 := (stepAt_le e2).2
    refine runs_region ?_; refine o1 (mv ?_); refine oc (op_callo ca62 rfl rfl rfl rfl (sname_spec s hs (stepAt s q2) e3 (stepTok s q2) (tokR s q2).2.1) [0] (boc .nil) rfl rfl rfl rfl (fir .nil) (fun s ob' hq => ?_) (fun s ob' hq => ?_))
    rotate_left
    · rcases hq with ⟨_, hq1, _⟩ | ⟨hnm, hq1, rfl⟩
      · cases hq1
      cases hq1; refine ⟨_, _, _, _, _, rfl, rfl, rfl, rfl, rfl, ?_⟩; refine leave_d ([0]) ([.dead]) rfl rfl rfl (by repeat (first | exact boz | refine bod ?_)) ?_
      exact DrQ.bad (decl_name c1 hkk (by rw [c2]; exact name_no (by rw [← step_isName]; exact hnm))) ⟨rfl, rfl⟩
    rcases hq with ⟨hnm, hq1, rfl⟩ | ⟨_, hq1, _⟩
    rotate_left
    · cases hq1
    cases hq1
    have hnm2 : isNameB (tokR s q2).1 = true := (by rw [← step_isName]; exact hnm)
    have hnt : (tokR s q2).1 = stepTok s q2 := (step_tok (by intro e; rw [e] at hnm2; simp [isNameB] at hnm2)).1.symm
    have c3 : nameR s (nextR s ⟨q1, none⟩).2 = (stepTok s q2, ⟨stepAt s q2, none⟩) := (by rw [c2, name_yes hnm2, hnt])
    generalize stepTok s q2 = nm at c3 ⊢
    generalize stepAt s q2 = q3 at c3 e3 ⊢
    have e4 := (stepAt_le e3).2
    refine ⟨_, _, _, _, _, rfl, rfl, rfl, rfl, rfl, ?_⟩; refine o1 (fdb ti80 ?_); refine oc (sto ti9 ?_); refine nx ?_; refine sr ?_; refine o1 (mv ?_)
    refine oc (op_callo ca59 rfl rfl rfl rfl (stake_spec s hs (stepAt s q3) e4 (stepTok s q3) ⟨#[40]⟩ (tokR s q3).2.1) [0] (boc .nil) rfl rfl rfl rfl (fir (fir .nil)) (fun s ob' hq => ?_) (fun s ob' hq => ?_))
    rotate_left
    · rcases hq with ⟨_, hq1, _⟩ | ⟨htk, hq1, rfl⟩
      · cases hq1
      cases hq1; refine ⟨_, _, _, _, _, rfl, rfl, rfl, rfl, rfl, ?_⟩; refine leave_d ([0]) ([.dead]) rfl rfl rfl (by repeat (first | exact boz | refine bod ?_)) ?_
      exact DrQ.bad (decl_open c1 hkk (by rw [c3]; exact takeR_no (fun e => htk ((step_is (by decide) (by decide)).2 e)))) ⟨rfl, rfl⟩
    rcases hq with ⟨htk, hq1, rfl⟩ | ⟨_, hq1, _⟩
    rotate_left
    · cases hq1
    cases hq1
    have c4 : takeR s ⟨#[40]⟩ (nameR s (nextR s ⟨q1, none⟩).2).2 = ⟨stepAt s q3, none⟩ := (by rw [c3]; exact takeR_yes (by decide) ((step_is (by decide) (by decide)).1 htk))
    generalize stepAt s q3 = q4 at c4 e4 ⊢
    unfold scA scO
    refine ⟨_, _, _, _, _, rfl, rfl, rfl, rfl, rfl, ?_⟩; refine nx ?_; refine runs_seq ?_; refine runs_block ?_; refine kp [3, 2, 0] ?_; refine runs_nilrow 9 1 rfl ?_
    apply runs_loop_o (ι := Nat × List ByteArray × Nat) (fun ⟨m, acc, q⟩ => []) (fun ⟨m, acc, q⟩ => [scA s q, .cells [.d (.v (.int .i64 0)), .d (.v (.string .empty)), .d (.v (.slice none 0 0)), .d (.v (.int .i64 0)), .d (.v (.int .i64 0)), .d (.v (.string .empty)), .d (.v (.slice none 0 0)), .d (.v (.slice none 0 0)), .d (.v (.int .i64 0)), .d (.v (.int .i64 0)), .d (.v (.string .empty)), .d (.v (.slice none 0 0)), .d (.v (.slice none 0 0)), .d (.v (.int .i64 0)), .d (.v (.slice none 0 0))] 80, .cells [.d (.v (.int .i64 k)), .d (.v (.string nm)), .own 3 1 (strs acc), .d (.v (.int .i64 0)), .d (.v (.int .i64 0)), .d (.v (.string .empty)), .d (.v (.slice none 0 0)), .d (.v (.slice none 0 0)), .d (.v (.int .i64 0)), .d (.v (.int .i64 0)), .d (.v (.string .empty)), .d (.v (.slice none 0 0)), .d (.v (.slice none 0 0)), .d (.v (.int .i64 0)), .d (.v (.slice none 0 0))] 80, .row 9 1]) [3, 2, 0] (fun ⟨m, acc, q⟩ => q ≤ s.size ∧ acc.length + m = s.size + 2 ∧ s.size - q < m ∧ namesR (s.size + 2) s ⟨q4, none⟩ = (acc ++ (namesR m s ⟨q, none⟩).1, (namesR m s ⟨q, none⟩).2)) (fun ⟨m, acc, q⟩ => m) ((s.size + 2, [], q4)) ([0, 1, 2, 3])
    case hk => exact rfl
    case hI =>
      exact ⟨e4, by simp, by omega, rfl⟩
    case hm =>
      refine mo ?_ (sly (sly (sly slz)))
      repeat (first | exact boz | exact fiz | refine boc ?_ | refine bon ?_ | refine boe ?_ ?_ | refine fir ?_ | refine .cons (.nil rfl) ?_)
    case h =>
      rintro ⟨m, acc, q⟩ hinv
      try dsimp only at hinv
      refine kp [3, 2, 0] ?_; refine runs_seq ?_; refine sr ?_; refine o1 (mv ?_); refine o1 (ncb ?_); refine o1 (fdb ti76 ?_); refine o1 (ldb ti9 ?_); refine o1 (sne ?_); refine nx ?_; refine cd (fun h8 => ?_) (fun h8 => ?_)
      · (try simp only [nrm, Int.reduceEq, Int.reduceNe, Int.reduceLT, Int.reduceLE] at h8)
        refine runs_skip ?_; refine seq_normal ?_; refine runs_block ?_; refine kp [3, 2, 0] ?_
        have hm1 := hinv.2.2.1
        have hpk : ¬ peekR s ⟨q, none⟩ = ⟨#[41]⟩ := fun e => h8 (peek_step.1 e)
        have hln := strs_len acc
        refine a_start ?_ (hm := by exact mixed); refine A1 0 rfl (fdb ti80 ⟨_, rfl, ?_⟩); refine A1 1 rfl (ldb ti77 ⟨_, rfl, ?_⟩); refine A1 2 rfl (mv ⟨_, rfl, ?_⟩)
        refine A2 3 rfl (op_callo ca62 rfl rfl rfl rfl (sname_spec s hs (stepAt s q) (stepAt_le hinv.1).2 (stepTok s q) (tokR s q).2.1) [0] (boc .nil) rfl rfl rfl rfl (fir .nil) (fun s ob' hq => ?_) (fun s ob' hq => ?_))
        rotate_left
        · rcases hq with ⟨_, hq1, _⟩ | ⟨hnm, hq1, rfl⟩
          · cases hq1
          cases hq1; refine ⟨_, _, _, _, _, rfl, rfl, rfl, rfl, rfl, ?_⟩; refine leave_d ([0]) ([.dead]) rfl rfl rfl (by repeat (first | exact boz | refine bod ?_)) ?_
          exact DrQ.bad (decl_names c1 hkk (by rw [c4]; exact names_bad hinv.2.2.2 (by omega) ⟨rfl, hpk⟩ (name_no (by rw [← step_isName]; exact hnm)))) ⟨rfl, rfl⟩
        rcases hq with ⟨hnm, hq1, rfl⟩ | ⟨_, hq1, _⟩
        rotate_left
        · cases hq1
        cases hq1
        have hnm2 : isNameB (tokR s q).1 = true := (by rw [← step_isName]; exact hnm)
        have hnt : (tokR s q).1 = stepTok s q := (step_tok (by intro e; rw [e] at hnm2; simp [isNameB] at hnm2)).1.symm
        refine ⟨_, _, _, _, _, rfl, rfl, rfl, rfl, rfl, ?_⟩
        refine A2 (T := fun _ => False) 4 rfl (op_lit sl77 [.tmp 35] ti9 rfl rfl rfl rfl rfl rfl rfl (by decide) (by decide) (by decide) (by simp only [List.length_cons, List.length_nil, Nat.reduceAdd]; rfl) rfl ?_)
        refine A2 5 rfl (op_append sl77 rfl rfl rfl rfl rfl rfl rfl (.inl rfl) (by decide) (by simp) (by first | decide | (simp only [maxLen, List.length_cons, List.length_nil, List.length_append, List.length_map]; omega) | omega) rfl rfl rfl ?_)
        refine A1 6 rfl (fdb ti80 ⟨_, rfl, ?_⟩); refine A2 7 rfl (sto ti77 ?_); refine a_end ?_; refine inb_normal ?_; refine seq_back ?_
        rw [strs_app, ← hnt]
        refine back_c ((m - 1, acc ++ [(tokR s q).1], stepAt s q)) rfl ?_ ([0, 1, 2, 3]) ?_
        · exact ⟨names_stepN hinv hpk hnm2, show m - 1 < m by omega⟩
        · refine mo ?_ (sly (sly (sly slz)))
          repeat (first | exact boz | refine boc ?_ | refine bor ?_)
      (try simp only [nrm, Int.reduceEq, Int.reduceNe, Int.reduceLT, Int.reduceLE] at h8); refine runs_exit ?_; refine seq_exit ?_; refine seq_exit ?_; refine inb_exit ?_; refine seq_normal ?_; refine runs_seq ?_; refine kp [3, 2, 0] ?_
      have e5 : namesR (s.size + 2) s (takeR s ⟨#[40]⟩ (nameR s (nextR s ⟨q1, none⟩).2).2) = (acc, ⟨q, none⟩) := (by rw [c4, hinv.2.2.2, names_stop (by rintro ⟨_, hb⟩; exact hb (peek_step.2 h8)), List.append_nil])
      have c5 := declHead_eq (k := k) (nm := nm) c1 hk hk0 (by rw [c3]) e5
      rw [takeR_yes (by decide) ((step_is (by decide) (by decide)).1 h8)] at c5
      have e6 := (stepAt_le hinv.1).2
      refine runs_region ?_; refine o1 (mv ?_); refine oc (ck ca55 rfl rfl (step_spec s hs (stepAt s q) e6 (stepTok s q) (tokR s q).2.1) [0] rfl (boc .nil) (fir .nil) ?_); refine nx ?_; refine runs_seq ?_; refine runs_seq ?_
      generalize stepAt s q = q6 at c5 e6 ⊢
      refine runs_region ?_; refine o1 (fdb ti80 ?_); refine o1 (ldb ti3 ?_); refine o1 (ieq ?_); refine nx ?_; refine kp [43, 3, 2, 0] ?_
      apply runs_cut_o (ι := Int × Nat) (fun ⟨a, q7⟩ => []) (fun ⟨a, q7⟩ => [scA s q7, .cells [.d (.v (.int .i64 0)), .d (.v (.string .empty)), .d (.v (.slice none 0 0)), .d (.v (.int .i64 0)), .d (.v (.int .i64 0)), .d (.v (.string .empty)), .d (.v (.slice none 0 0)), .d (.v (.slice none 0 0)), .d (.v (.int .i64 0)), .d (.v (.int .i64 0)), .d (.v (.string .empty)), .d (.v (.slice none 0 0)), .d (.v (.slice none 0 0)), .d (.v (.int .i64 0)), .d (.v (.slice none 0 0))] 80, .cells [.d (.v (.int .i64 k)), .d (.v (.string nm)), .own 3 1 (strs acc), .d (.v (.int .i64 0)), .d (.v (.int .i64 0)), .d (.v (.string .empty)), .d (.v (.slice none 0 0)), .d (.v (.slice none 0 0)), .d (.v (.int .i64 0)), .d (.v (.int .i64 0)), .d (.v (.string .empty)), .d (.v (.slice none 0 0)), .d (.v (.slice none 0 0)), .d (.v (.int .i64 a)), .d (.v (.slice none 0 0))] 80, .row 9 1]) [3, 2, 0] (fun ⟨a, q7⟩ => arityR s k ⟨q6, none⟩ = (a, ⟨q7, none⟩) ∧ ¬ (k = 3 ∧ ¬ arityB (tokR s (RS.mk q6 none).p)) ∧ q7 ≤ s.size)
      case hk => exact rfl
      case h1 =>
        refine cdf (fun h11 => ?_) (fun h11 => ?_)
        · (try simp only [nrm, Int.reduceEq, Int.reduceNe, Int.reduceLT, Int.reduceLE] at h11)
          refine runs_skip ?_; refine seq_back ?_; refine back_c ((0, q6)) rfl ?_ ([0, 1, 2, 3]) ?_
          · exact ⟨(by unfold arityR; rw [if_neg (by omega)]), fun h => (by omega), e6⟩
          · refine mo ?_ (sly (sly (sly slz)))
            repeat (first | exact boz | refine boc ?_ | refine bor ?_)
        (try simp only [nrm, Int.reduceEq, Int.reduceNe, Int.reduceLT, Int.reduceLE] at h11); refine sr ?_; refine o1 (mv ?_); refine o1 (ncb ?_); refine o1 (fdb ti76 ?_); refine o1 (ldb ti9 ?_)
        refine oc (T := fun _ => False) (op_call ca57 rfl rfl rfl rfl (atoiAny_spec s q6 e6 hs e hg he) (fir .nil) (fun d hd => ?_)); obtain ⟨n, b, rfl, hn0, hab⟩ := hd; refine o1 (mv ?_); refine o1 (ex2 ?_); refine o1 (ex2 ?_); refine o1 (asg ?_)
        refine o1 (asg ?_); refine nx ?_; refine runs_seq ?_; refine kp [5, 4, 3, 2, 0] ?_; refine sr ?_; refine o1 (mv ?_); refine o1 (fl_errN ii40 rfl rfl ?_); refine o1 (mv ?_)
        apply ops_or (yt := 56) (d := 54) 2 rfl rfl rfl (.none rfl) rfl rfl
        case h1 =>
          intro hb4 hK
          have hc := hb4; (try simp only [nrm, Int.reduceEq, Int.reduceNe, Int.reduceLT, Int.reduceLE] at hc)
          refine gye ?_ (hbw := by exact hb4); refine o1 (mv ?_); refine gye ?_ (hbw := by exact hb4); refine o1 (igt ?_); exact hK [_, _] rfl rfl
        case h2 =>
          intro hb4 hK; refine gno ?_ (hbw := by exact hb4); refine gno ?_ (hbw := by exact hb4); exact hK [_, _] rfl
        refine nx ?_; refine cd (fun h13 => ?_) (fun h13 => ?_)
        · (try simp only [nrm, Int.reduceEq, Int.reduceNe, Int.reduceLT, Int.reduceLE] at h13)
          refine kp [4, 3, 2, 0] ?_
          have hnb : ¬ arityB (tokR s (RS.mk q6 none).p) := (by rcases hab with ⟨x1, x2, _⟩ | ⟨_, x⟩; (exfalso; rcases h13 with h | h; (rw [x1] at h; cases h); omega); exact x)
          obtain rfl : k = 3 := (by omega); refine runs_region ?_; refine o1 (mv ?_)
          refine oc (op_callo ca58 rfl rfl rfl rfl (sfail_spec s (stepAt s q6) (stepTok s q6) (tokR s q6).2.1) [0] (boc .nil) rfl rfl rfl rfl (fir .nil) (fun s ob' hq => ?_) (fun s ob' hq => ?_))
          · cases hq.1
          obtain ⟨hq1, rfl⟩ := hq; cases hq1; refine ⟨_, _, _, _, _, rfl, rfl, rfl, rfl, rfl, ?_⟩; refine leave_d ([0]) ([.dead]) rfl rfl rfl (by repeat (first | exact boz | refine bod ?_)) ?_
          exact DrQ.bad (a := (tokR s q6).2.1) (by rw [declR_bad c5 hnb]; rfl) ⟨rfl, rfl⟩
        (try simp only [nrm, Int.reduceEq, Int.reduceNe, Int.reduceLT, Int.reduceLE] at h13); refine runs_skip ?_; refine seq_normal ?_; refine runs_seq ?_; refine kp [4, 3, 2, 0] ?_
        have hab2 : arityB (tokR s q6) ∧ n = numR (tokR s q6).1 (tokR s q6).1.size := (by rcases hab with ⟨_, _, x3, x4⟩ | ⟨x1, _⟩; exact ⟨x3, x4⟩; (exfalso; rcases x1 with h | h; (rw [h13.1] at h; cases h); omega))
        refine runs_region ?_; refine o1 (mv ?_); refine o1 (fdb ti80 ?_); refine oc (sto ti3 ?_); refine nx ?_; refine runs_region ?_; refine o1 (mv ?_)
        refine oc (ck ca55 rfl rfl (step_spec s hs (stepAt s q6) (stepAt_le e6).2 (stepTok s q6) (tokR s q6).2.1) [0] rfl (boc .nil) (fir .nil) ?_); refine ops_nil ?_; refine seq_back ?_; refine back_c ((n, stepAt s q6)) rfl ?_ ([0, 1, 2, 3]) ?_
        · exact ⟨(by unfold arityR; rw [if_pos (by omega), nextR_eq hab2.1.1, hab2.2]), fun h => h.2 hab2.1, (stepAt_le e6).2⟩
        · refine mo ?_ (sly (sly (sly slz)))
          repeat (first | exact boz | refine boc ?_ | refine bor ?_)
      case h2 =>
        rintro ⟨a, q7⟩ hcut
        try dsimp only at hcut
        refine kp [3, 2, 0] ?_; refine runs_seq ?_; obtain ⟨c6, c7, e7⟩ := hcut
        have hlv := sread_spec (g := g) s hs (s.size + 1) q7 e7 (by omega)
        have e8 := (termR_le (s := s) (s.size + 1) ⟨q7, none⟩ e7).2
        rcases hla : termR (s.size + 1) s ⟨q7, none⟩ with ⟨⟨k1, n1, s1, l1, a1⟩, ⟨q8, f8⟩⟩
        rw [hla] at hlv e8
        simp only at e8
        refine runs_region ?_; refine o1 (mv ?_); refine oc (op_callo ca30 rfl rfl rfl rfl (hlv) [0] (boc .nil) rfl rfl rfl rfl (fir .nil) (fun s ob' hq => ?_) (fun s ob' hq => ?_))
        rotate_left
        · obtain ⟨a', hfa, rfl, rfl⟩ := hq.pan
          refine ⟨_, _, _, _, _, rfl, rfl, rfl, rfl, rfl, ?_⟩; refine leave_d ([0]) ([.dead]) rfl rfl rfl (by repeat (first | exact boz | refine bod ?_)) ?_; exact DrQ.bad (decl_term c5 hk0 c7 c6 (by rw [hla]; exact hfa)) ⟨rfl, rfl⟩
        obtain ⟨hfa, rfl, rfl⟩ := hq.ret; simp only at hfa; subst hfa; refine ⟨_, _, _, _, _, rfl, rfl, rfl, rfl, rfl, ?_⟩; refine o1 (fdb ti80 ?_); refine oc (sto ti29 ?_); refine nx ?_; refine runs_seq ?_; refine runs_seq ?_
        refine runs_nilrow 106 6 rfl ?_; refine runs_region ?_; refine o1 (fdb ti80 ?_); refine o1 (ldb ti3 ?_); refine nx ?_; refine kp [68, 3, 2, 0] ?_
        apply runs_cut_o (ι := Int × Int × ByteArray × List Lvl × List Trm × List (ByteArray × Trm) × Nat) (fun ⟨k2, n2, s2, l2, a2, cs, q10⟩ => []) (fun ⟨k2, n2, s2, l2, a2, cs, q10⟩ => [scA s q10, .cells [.d (.v (.int .i64 0)), .d (.v (.string .empty)), .d (.v (.slice none 0 0)), .d (.v (.int .i64 0)), .d (.v (.int .i64 0)), .d (.v (.string .empty)), .d (.v (.slice none 0 0)), .d (.v (.slice none 0 0)), .d (.v (.int .i64 0)), .d (.v (.int .i64 0)), .d (.v (.string .empty)), .d (.v (.slice none 0 0)), .d (.v (.slice none 0 0)), .d (.v (.int .i64 0)), .d (.v (.slice none 0 0))] 80, .cells [.d (.v (.int .i64 k)), .d (.v (.string nm)), .own 3 1 (strs acc), .d (.v (.int .i64 k1)), .d (.v (.int .i64 n1)), .d (.v (.string s1)), .d (.sl 3 (lvls l1)), .d (.sl 5 (trms a1)), .d (.v (.int .i64 k2)), .d (.v (.int .i64 n2)), .d (.v (.string s2)), .d (.sl 3 (lvls l2)), .d (.sl 5 (trms a2)), .d (.v (.int .i64 a)), .own 4 6 (ctrs cs)] 80, .row 9 1, .row 106 6]) [3, 2, 0] (fun ⟨k2, n2, s2, l2, a2, cs, q10⟩ => ∃ r9, valR s k ⟨q8, none⟩ = (.mk k2 n2 s2 l2 a2, r9) ∧ consR s k r9 = (cs, ⟨q10, none⟩) ∧ q10 ≤ s.size)
        case hk => exact rfl
        case h1 =>
          refine runs_block ?_; refine sr ?_; refine o1 (ieq ?_); refine o1 (asg ?_); refine nx ?_; refine cd (fun h19 => ?_) (fun h19 => ?_)
          · (try simp only [nrm, Int.reduceEq, Int.reduceNe, Int.reduceLT, Int.reduceLE] at h19)
            have hlw := sread_spec (g := g) s hs (s.size + 1) q8 e8 (by omega)
            have e9 := (termR_le (s := s) (s.size + 1) ⟨q8, none⟩ e8).2
            rcases hlb : termR (s.size + 1) s ⟨q8, none⟩ with ⟨⟨k2, n2, s2, l2, a2⟩, ⟨q9, f9⟩⟩
            rw [hlb] at hlw e9
            simp only at e9
            refine runs_region ?_; refine o1 (mv ?_); refine oc (op_callo ca30 rfl rfl rfl rfl (hlw) [0] (boc .nil) rfl rfl rfl rfl (fir .nil) (fun s ob' hq => ?_) (fun s ob' hq => ?_))
            rotate_left
            · obtain ⟨a', hfb, rfl, rfl⟩ := hq.pan
              refine ⟨_, _, _, _, _, rfl, rfl, rfl, rfl, rfl, ?_⟩; refine leave_d ([0]) ([.dead]) rfl rfl rfl (by repeat (first | exact boz | refine bod ?_)) ?_
              exact DrQ.bad (decl_val c5 hk0 c7 c6 hla (by unfold valR; rw [if_pos (by omega), hlb]; exact hfb)) ⟨rfl, rfl⟩
            obtain ⟨hfb, rfl, rfl⟩ := hq.ret; simp only at hfb; subst hfb; refine ⟨_, _, _, _, _, rfl, rfl, rfl, rfl, rfl, ?_⟩; refine o1 (fdb ti80 ?_); refine oc (sto ti29 ?_); refine ops_nil ?_; refine inb_normal ?_; refine seq_back ?_
            refine back_c ((k2, n2, s2, l2, a2, [], q9)) rfl ?_ ([0, 1, 2, 3, 4]) ?_
            · exact ⟨⟨q9, none⟩, (by unfold valR; rw [if_pos (by omega), hlb]), (by unfold consR; rw [if_neg (by omega)]), e9⟩
            · refine mo ?_ (sly (sly (sly slz)))
              repeat (first | exact boz | exact fiz | refine boc ?_ | refine bor ?_ | refine bon ?_ | refine boe ?_ ?_ | refine fir ?_ | refine .cons (.nil rfl) ?_)
          (try simp only [nrm, Int.reduceEq, Int.reduceNe, Int.reduceLT, Int.reduceLE] at h19); refine sr ?_; refine o1 (ieq ?_); refine o1 (asg ?_); refine nx ?_; refine cdf (fun h21 => ?_) (fun h21 => ?_)
          · (try simp only [nrm, Int.reduceEq, Int.reduceNe, Int.reduceLT, Int.reduceLE] at h21)
            refine runs_skip ?_; refine inb_normal ?_; refine seq_back ?_; refine back_c ((0, 0, .empty, [], [], [], q8)) rfl ?_ ([0, 1, 2, 3, 4]) ?_
            · exact ⟨⟨q8, none⟩, (by unfold valR; rw [if_neg (by omega)]; rfl), (by unfold consR; rw [if_neg (by omega)]), e8⟩
            · refine mo ?_ (sly (sly (sly slz)))
              repeat (first | exact boz | exact fiz | refine boc ?_ | refine bor ?_ | refine bon ?_ | refine boe ?_ ?_ | refine fir ?_ | refine fni ?_ | refine .cons (.nil rfl) ?_)
          (try simp only [nrm, Int.reduceEq, Int.reduceNe, Int.reduceLT, Int.reduceLE] at h21); refine runs_block ?_; refine kp [3, 2, 0] ?_
          apply runs_loop_o (ι := Nat × List (ByteArray × Trm) × Nat) (fun ⟨m, cs, q⟩ => []) (fun ⟨m, cs, q⟩ => [scA s q, .cells [.d (.v (.int .i64 0)), .d (.v (.string .empty)), .d (.v (.slice none 0 0)), .d (.v (.int .i64 0)), .d (.v (.int .i64 0)), .d (.v (.string .empty)), .d (.v (.slice none 0 0)), .d (.v (.slice none 0 0)), .d (.v (.int .i64 0)), .d (.v (.int .i64 0)), .d (.v (.string .empty)), .d (.v (.slice none 0 0)), .d (.v (.slice none 0 0)), .d (.v (.int .i64 0)), .d (.v (.slice none 0 0))] 80, .cells [.d (.v (.int .i64 k)), .d (.v (.string nm)), .own 3 1 (strs acc), .d (.v (.int .i64 k1)), .d (.v (.int .i64 n1)), .d (.v (.string s1)), .d (.sl 3 (lvls l1)), .d (.sl 5 (trms a1)), .d (.v (.int .i64 0)), .d (.v (.int .i64 0)), .d (.v (.string .empty)), .d (.v (.slice none 0 0)), .d (.v (.slice none 0 0)), .d (.v (.int .i64 a)), .own 4 6 (ctrs cs)] 80, .row 9 1, .row 106 6]) [3, 2, 0] (fun ⟨m, cs, q⟩ => q ≤ s.size ∧ cs.length + m = s.size + 2 ∧ s.size - q < m ∧ ctorsR (s.size + 2) s ⟨q8, none⟩ = (cs ++ (ctorsR m s ⟨q, none⟩).1, (ctorsR m s ⟨q, none⟩).2)) (fun ⟨m, cs, q⟩ => m) ((s.size + 2, [], q8)) ([0, 1, 2, 3, 4])
          case hk => exact rfl
          case hI =>
            exact ⟨e8, by simp, by omega, rfl⟩
          case hm =>
            refine mo ?_ (sly (sly (sly slz)))
            repeat (first | exact boz | exact fiz | refine boc ?_ | refine bor ?_ | refine bon ?_ | refine boe ?_ ?_ | refine fir ?_ | refine .cons (.nil rfl) ?_)
          case h =>
            rintro ⟨m, cs, q⟩ hinv
            try dsimp only at hinv
            refine kp [3, 2, 0] ?_; refine runs_seq ?_; refine sr ?_; refine o1 (mv ?_); refine o1 (ncb ?_); refine o1 (fdb ti76 ?_); refine o1 (ldb ti9 ?_); refine o1 (seq1 ?_); refine nx ?_; refine cdf (fun h22 => ?_) (fun h22 => ?_)
            · (try simp only [nrm, Int.reduceEq, Int.reduceNe, Int.reduceLT, Int.reduceLE] at h22)
              refine runs_exit ?_; refine seq_exit ?_; refine seq_exit ?_; refine inb_exit ?_; refine inb_normal ?_; refine seq_back ?_; refine back_c ((0, 0, .empty, [], [], cs, q)) rfl ?_ ([0, 1, 2, 3, 4]) ?_
              · exact ⟨⟨q8, none⟩, (by unfold valR; rw [if_neg (by omega)]; rfl), (by unfold consR; rw [if_pos (by omega), hinv.2.2.2, ctors_stop (by rintro ⟨_, hb⟩; exact h22 (peek_step40.1 hb)), List.append_nil]), hinv.1⟩
              · refine mo ?_ (sly (sly (sly slz)))
                repeat (first | exact boz | exact fiz | refine boc ?_ | refine bor ?_ | refine boe ?_ ?_ | refine fir ?_ | refine fni ?_)
            (try simp only [nrm, Int.reduceEq, Int.reduceNe, Int.reduceLT, Int.reduceLE] at h22); refine runs_skip ?_; refine seq_normal ?_; refine runs_block ?_; refine runs_seq ?_; refine kp [3, 2, 0] ?_
            have hm1 := hinv.2.2.1
            have hpk : peekR s ⟨q, none⟩ = ⟨#[40]⟩ := peek_step40.2 h22
            have t1 : takeR s ⟨#[40]⟩ ⟨q, none⟩ = ⟨stepAt s q, none⟩ := takeR_yes (by decide) ((step_is (by decide) (by decide)).1 h22)
            have v1 : valR s k ⟨q8, none⟩ = (zeroT, ⟨q8, none⟩) := (by unfold valR; rw [if_neg (by omega)])
            have f1 := (stepAt_le hinv.1).2
            have hcf : ∀ x : Nat, (ctorR s ⟨q, none⟩).2.f = some x → (declR s ⟨p, none⟩).2.f = some x := fun x hx => decl_cons c5 hk0 c7 c6 hla v1 (by unfold consR; rw [if_pos (by omega)]; exact ctors_bad hinv.2.2.2 (by omega) ⟨rfl, hpk⟩ hx)
            refine runs_region ?_; refine o1 (mv ?_); refine oc (ck ca55 rfl rfl (step_spec s hs (stepAt s q) f1 (stepTok s q) (tokR s q).2.1) [0] rfl (boc .nil) (fir .nil) ?_); refine nx ?_; refine runs_seq ?_
            generalize stepAt s q = d1 at t1 f1 ⊢
            have f2 := (stepAt_le f1).2
            refine runs_region ?_; refine o1 (mv ?_)
            refine oc (op_callo ca59 rfl rfl rfl rfl (stake_spec s hs (stepAt s d1) f2 (stepTok s d1) ctorW (tokR s d1).2.1) [0] (boc .nil) rfl rfl rfl rfl (fir (fir .nil)) (fun s ob' hq => ?_) (fun s ob' hq => ?_))
            rotate_left
            · rcases hq with ⟨_, hq1, _⟩ | ⟨htk, hq1, rfl⟩
              · cases hq1
              cases hq1; refine ⟨_, _, _, _, _, rfl, rfl, rfl, rfl, rfl, ?_⟩; refine leave_d ([0]) ([.dead]) rfl rfl rfl (by repeat (first | exact boz | refine bod ?_)) ?_
              exact DrQ.bad (hcf _ (take_some (term_some (name_some (by rw [t1]; exact takeR_no (fun e => htk ((step_is (by decide) (by decide)).2 e))))))) ⟨rfl, rfl⟩
            rcases hq with ⟨htk, hq1, rfl⟩ | ⟨_, hq1, _⟩
            rotate_left
            · cases hq1
            cases hq1
            have t2 : takeR s ctorW ⟨d1, none⟩ = ⟨stepAt s d1, none⟩ := takeR_yes (by decide) ((step_is (by decide) (by decide)).1 htk)
            generalize stepAt s d1 = d2 at t2 f2 ⊢
            have f3 := (stepAt_le f2).2
            have hlnc := ctrs_len cs
            refine ⟨_, _, _, _, _, rfl, rfl, rfl, rfl, rfl, ?_⟩; refine nx ?_; refine runs_seq ?_; refine kp [3, 2, 0] ?_; refine a_start ?_ (hm := by exact mixed); refine A1 0 rfl (fdb ti80 ⟨_, rfl, ?_⟩); refine A1 1 rfl (ldb ti78 ⟨_, rfl, ?_⟩)
            refine A1 2 rfl (mv ⟨_, rfl, ?_⟩); refine A1 4 rfl (mv ⟨_, rfl, ?_⟩)
            refine A2 3 rfl (op_callo ca62 rfl rfl rfl rfl (sname_spec s hs (stepAt s d2) f3 (stepTok s d2) (tokR s d2).2.1) [0] (boc .nil) rfl rfl rfl rfl (fir .nil) (fun s ob' hq => ?_) (fun s ob' hq => ?_))
            rotate_left
            · rcases hq with ⟨_, hq1, _⟩ | ⟨hnm, hq1, rfl⟩
              · cases hq1
              cases hq1; refine ⟨_, _, _, _, _, rfl, rfl, rfl, rfl, rfl, ?_⟩; refine leave_d ([0]) ([.dead]) rfl rfl rfl (by repeat (first | exact boz | refine bod ?_)) ?_
              exact DrQ.bad (hcf _ (take_some (term_some (by rw [t1, t2]; exact name_no (by rw [← step_isName]; exact hnm))))) ⟨rfl, rfl⟩
            rcases hq with ⟨hnm, hq1, rfl⟩ | ⟨_, hq1, _⟩
            rotate_left
            · cases hq1
            cases hq1
            have hnm2 : isNameB (tokR s d2).1 = true := (by rw [← step_isName]; exact hnm)
            have hnt : (tokR s d2).1 = stepTok s d2 := (step_tok (by intro e; rw [e] at hnm2; simp [isNameB] at hnm2)).1.symm
            have t3 : nameR s ⟨d2, none⟩ = (stepTok s d2, ⟨stepAt s d2, none⟩) := (by rw [name_yes hnm2, hnt])
            generalize stepTok s d2 = nm3 at t3 ⊢
            generalize stepAt s d2 = d3 at t3 f3 ⊢
            have hlx := sread_spec (g := g) s hs (s.size + 1) d3 f3 (by omega)
            have f4 := (termR_le (s := s) (s.size + 1) ⟨d3, none⟩ f3).2
            rcases hlc : termR (s.size + 1) s ⟨d3, none⟩ with ⟨⟨k3, n3, s3, l3, a3⟩, ⟨d4, fd⟩⟩
            rw [hlc] at hlx f4
            simp only at f4
            refine ⟨_, _, _, _, _, rfl, rfl, rfl, rfl, rfl, ?_⟩; refine A2 5 rfl (op_callo ca30 rfl rfl rfl rfl (hlx) [0] (boc .nil) rfl rfl rfl rfl (fir .nil) (fun s ob' hq => ?_) (fun s ob' hq => ?_))
            rotate_left
            · obtain ⟨a', hfc, rfl, rfl⟩ := hq.pan
              refine ⟨_, _, _, _, _, rfl, rfl, rfl, rfl, rfl, ?_⟩; refine leave_d ([0]) ([.dead]) rfl rfl rfl (by repeat (first | exact boz | refine bod ?_)) ?_; exact DrQ.bad (hcf _ (take_some (by rw [t1, t2, t3, hlc]; exact hfc))) ⟨rfl, rfl⟩
            obtain ⟨hfc, rfl, rfl⟩ := hq.ret; simp only at hfc; subst hfc; have f5 := (stepAt_le f4).2; refine ⟨_, _, _, _, _, rfl, rfl, rfl, rfl, rfl, ?_⟩; refine A1 6 rfl (bld ti106 ⟨_, rfl, ?_⟩)
            refine A2 (T := fun _ => False) 7 rfl (op_lit sl78 [.tmp 91] ti106 rfl rfl rfl rfl rfl rfl rfl (by decide) (by decide) (by decide) (by simp only [List.length_cons, List.length_nil, Nat.reduceAdd]; rfl) rfl ?_)
            refine A2 8 rfl (op_append sl78 rfl rfl rfl rfl rfl rfl rfl (.inl rfl) (by decide) (by simp) (by first | decide | (simp only [maxLen, List.length_cons, List.length_nil, List.length_append, List.length_map]; omega) | omega) rfl rfl rfl ?_)
            refine A1 9 rfl (fdb ti80 ⟨_, rfl, ?_⟩); refine A2 10 rfl (sto ti78 ?_); refine a_end ?_; refine seq_normal ?_; refine kp [3, 2, 0] ?_; refine runs_region ?_; refine o1 (mv ?_)
            refine oc (op_callo ca59 rfl rfl rfl rfl (stake_spec s hs (stepAt s d4) f5 (stepTok s d4) ⟨#[41]⟩ (tokR s d4).2.1) [0] (boc .nil) rfl rfl rfl rfl (fir (fir .nil)) (fun s ob' hq => ?_) (fun s ob' hq => ?_))
            rotate_left
            · rcases hq with ⟨_, hq1, _⟩ | ⟨htk, hq1, rfl⟩
              · cases hq1
              cases hq1; refine ⟨_, _, _, _, _, rfl, rfl, rfl, rfl, rfl, ?_⟩; refine leave_d ([0]) ([.dead]) rfl rfl rfl (by repeat (first | exact boz | refine bod ?_)) ?_
              exact DrQ.bad (hcf _ (by rw [ctorR_eq t1 t2 t3 hlc]; exact takeR_no (fun e => htk ((step_is (by decide) (by decide)).2 e)))) ⟨rfl, rfl⟩
            rcases hq with ⟨htk, hq1, rfl⟩ | ⟨_, hq1, _⟩
            rotate_left
            · cases hq1
            cases hq1
            have t5 : takeR s ⟨#[41]⟩ ⟨d4, none⟩ = ⟨stepAt s d4, none⟩ := takeR_yes (by decide) ((step_is (by decide) (by decide)).1 htk)
            have hlast : ctrs cs ++ [[.v (.string nm3), .v (.int .i64 k3), .v (.int .i64 n3), .v (.string s3), .sl 3 (lvls l3), .sl 5 (trms a3)]] = ctrs (cs ++ [(nm3, .mk k3 n3 s3 l3 a3)]) := (by rw [ctrs_app]; rfl)
            refine ⟨_, _, _, _, _, rfl, rfl, rfl, rfl, rfl, ?_⟩; refine ops_nil ?_; refine inb_normal ?_; refine seq_back ?_
            rw [hlast]
            refine back_c ((m - 1, cs ++ [(nm3, .mk k3 n3 s3 l3 a3)], stepAt s d4)) rfl ?_ ([0, 1, 2, 3, 4]) ?_
            · exact ⟨ctors_stepN hinv hpk (by rw [ctorR_eq t1 t2 t3 hlc, t5]), show m - 1 < m by omega⟩
            · refine mo ?_ (sly (sly (sly slz)))
              repeat (first | exact boz | refine boc ?_ | refine bor ?_)
        case h2 =>
          rintro ⟨k2, n2, s2, l2, a2, cs, q10⟩ hcut
          try dsimp only at hcut
          refine kp [3, 2, 0] ?_; refine runs_seq ?_; obtain ⟨r9, v1, v2, e10⟩ := hcut
          have e11 := (stepAt_le e10).2
          refine runs_region ?_; refine o1 (mv ?_)
          refine oc (op_callo ca59 rfl rfl rfl rfl (stake_spec s hs (stepAt s q10) e11 (stepTok s q10) ⟨#[41]⟩ (tokR s q10).2.1) [0] (boc .nil) rfl rfl rfl rfl (fir (fir .nil)) (fun s ob' hq => ?_) (fun s ob' hq => ?_))
          rotate_left
          · rcases hq with ⟨_, hq1, _⟩ | ⟨htk, hq1, rfl⟩
            · cases hq1
            cases hq1; refine ⟨_, _, _, _, _, rfl, rfl, rfl, rfl, rfl, ?_⟩; refine leave_d ([0]) ([.dead]) rfl rfl rfl (by repeat (first | exact boz | refine bod ?_)) ?_
            exact DrQ.bad (decl_close c5 hk0 c7 c6 hla v1 v2 (takeR_no (fun e => htk ((step_is (by decide) (by decide)).2 e)))) ⟨rfl, rfl⟩
          rcases hq with ⟨htk, hq1, rfl⟩ | ⟨_, hq1, _⟩
          rotate_left
          · cases hq1
          cases hq1
          have c8 : takeR s ⟨#[41]⟩ ⟨q10, none⟩ = ⟨stepAt s q10, none⟩ := takeR_yes (by decide) ((step_is (by decide) (by decide)).1 htk)
          refine ⟨_, _, _, _, _, rfl, rfl, rfl, rfl, rfl, ?_⟩; refine nx ?_; refine sr ?_; refine o1 (ldb ti80 ?_); refine oc (sto ti80 ?_); refine nx ?_; refine runs_ret ?_; refine fin_ret ?_
          refine fin_odl ⟨_, _, rfl, (from_cell rfl rfl ti80 rfl rfl rfl rfl), rfl⟩ rfl ((Dec.mk k nm acc (.mk k1 n1 s1 l1 a1) (.mk k2 n2 s2 l2 a2) a cs).d) (by exact .refl _) ([0]) ([scA s (stepAt s q10)]) rfl rfl rfl ?_ ?_
          · repeat (first | exact boz | refine boc ?_)
          · rw [declR_good c5 hk0 c7 c6 hla v1 v2, c8]; exact DrQ.ok rfl ⟨rfl, rfl⟩
end Go.Proofs.YtneaancanfpdhaaDoor
namespace Go.Proofs.YtneaancanfpdhaaDoor
open Go Go.Vd Go.RowKit
attribute [local irreducible] Runs OpsR OpR FloatR AnyR AnyO
variable {gl : Nat → List D}

theorem catch_ret (E : D) : TriDf Tryd.prog gl 28 [.cells [.d E] 40] [.blk 0 0] .ret (fun U' ob' => U' = .ret ∧ ob' = [.cells [.d E] 40]) := by
  refine triDf_recover (Q0 := fun out ob' => out = .ret (.d (.tup [])) ∧ ob' = [.cells [.d E] 40]) (U' := .ret) Tryd.func28 rfl Tryd.ntmps28 (rs := []) rfl rfl rfl 1 rfl (fun _ _ => rfl) rfl rfl rfl (.inl ⟨rfl, rfl, rfl⟩) ?_ ?_
  · rintro out ob' ⟨rfl, rfl⟩; exact ⟨⟨_, rfl⟩, rfl, rfl⟩
  refine runs_block ?_; refine sr ?_; refine o1 (f_ieql_nil ii20 ?_); refine nx ?_; refine cdf (fun h3 => ?_) (fun h3 => ?_)
  · simp only [nrm, Int.reduceEq, Int.reduceNe, Int.reduceLT, Int.reduceLE] at h3
  (try simp only [nrm, Int.reduceEq, Int.reduceNe, Int.reduceLT, Int.reduceLE] at h3); refine runs_region ?_; refine o1 (asg ?_); refine ops_nil ?_; refine inb_normal ?_; refine fin_normal ?_
  refine fin_od (l := []) rfl rfl ([0]) ([.cells [.d E] 40]) rfl rfl rfl ?_ ?_
  · repeat (first | exact boz | refine boc ?_)
  · exact ⟨rfl, rfl⟩
theorem catch_pan (E : D) (c a : Int) : TriDf Tryd.prog gl 28 [.cells [.d E] 40] [.blk 0 0] (.pan (fltD c a) false) (fun U' ob' => U' = .pan (fltD c a) true ∧ ob' = [.cells [.d (fltD c a)] 40]) := by
  refine triDf_recover (Q0 := fun out ob' => out = .ret (.d (.tup [])) ∧ ob' = [.cells [.d (fltD c a)] 40]) (U' := .pan (fltD c a) true) Tryd.func28 rfl Tryd.ntmps28 (rs := []) rfl rfl rfl 1 rfl (fun _ _ => rfl) rfl rfl rfl (.inr ⟨_, rfl, rfl, rfl⟩) ?_ ?_
  · rintro out ob' ⟨rfl, rfl⟩; exact ⟨⟨_, rfl⟩, rfl, rfl⟩
  unfold fltD
  refine runs_block ?_; refine sr ?_; refine o1 (f_ieql_d ii20 ?_); refine nx ?_; refine cd (fun h3 => ?_) (fun h3 => ?_)
  · simp only [nrm, Int.reduceEq, Int.reduceNe, Int.reduceLT, Int.reduceLE] at h3
  (try simp only [nrm, Int.reduceEq, Int.reduceNe, Int.reduceLT, Int.reduceLE] at h3); refine sr ?_; refine o1 (f_tassert_yes ?_); refine o1 (ex2 ?_); refine o1 (ex2 ?_); refine nx ?_; refine cdf (fun h5 => ?_) (fun h5 => ?_)
  · simp only [nrm, Int.reduceEq, Int.reduceNe, Int.reduceLT, Int.reduceLE] at h5
  (try simp only [nrm, Int.reduceEq, Int.reduceNe, Int.reduceLT, Int.reduceLE] at h5); refine kp [10, 0] ?_; refine sr ?_; refine o1 (asg ?_); refine nx ?_; refine runs_region ?_; refine o1 (mv ?_); refine o1 (mv ?_); refine o1 (f_iface_d ?_)
  refine o1 (ncb ?_); refine oc (sto ti40 ?_); refine ops_nil ?_; refine inb_normal ?_; refine fin_normal ?_; refine fin_od (l := []) rfl rfl ([0]) ([.cells [.d (fltD c a)] 40]) rfl rfl rfl ?_ ?_
  · repeat (first | exact boz | refine boc ?_)
  · exact ⟨rfl, rfl⟩

/-- an error, by its code and place -/
def errD (c a : Int) : D := if c = 0 then .v .nilIface else fltD c a
theorem errD_zero (a : Int) : errD 0 a = .v .nilIface := rfl
theorem errD_ne {c : Int} (h : ¬ c = 0) (a : Int) : errD c a = fltD c a := if_neg h
theorem doneR_some {s : ByteArray} {p a : Nat} : (doneR s ⟨p, some a⟩).f = some a := by
  unfold doneR; dsimp only; split <;> rfl
theorem doneR_no {s : ByteArray} {p : Nat} (h : ¬ stepTok s p = .empty) : (doneR s ⟨p, none⟩).f = some (tokR s p).2.1 := by
  unfold doneR; dsimp only
  rw [if_pos]; rfl
  cases h2 : (tokR s p).2.2 with
  | false => exact .inl rfl
  | true =>
    right; intro e; apply h; unfold stepTok; rw [if_pos h2, e]
theorem doneR_yes {s : ByteArray} {p : Nat} (h : stepTok s p = .empty) : (doneR s ⟨p, none⟩).f = none := by
  unfold doneR; dsimp only
  unfold stepTok at h
  split at h
  · rename_i h2
    rw [if_neg]; rintro (h3 | h3)
    · rw [h2] at h3; cases h3
    · exact h3 h
  · exact absurd h (by decide)
theorem send_spec (s : ByteArray) (b : Nat) (tok : ByteArray) (pos : Nat) :
    Tri Tryd.prog gl 31 [scO s b tok pos] [.blk 0 0] fun out ob' => (tok = .empty ∧ out = .ret (.d (.tup [])) ∧ ob' = [scO s b tok pos]) ∨ (¬ tok = .empty ∧ out = .pan (.d (fltD 1 pos)) ∧ ob' = [scO s b tok pos]) := by
  by_cases h : tok = .empty
  · subst h; exact (end_ok s b pos).mono fun o b hq => .inl ⟨rfl, hq⟩
  · exact (end_bad s b tok pos h).mono fun o b hq => .inr ⟨h, hq⟩

end Go.Proofs.YtneaancanfpdhaaDoor
namespace Go.Proofs.YtneaancanfpdhaaDoor
open Go Go.Vd Go.RowKit
attribute [local irreducible] Runs OpsR OpR FloatR AnyR AnyO
variable {g gl : Nat → List D}

theorem tclos_nil (x y z u v : D) : TriDf Tryd.prog gl 27 [.cells [.d (.v .nilIface)] 40, .cells [.d x, .d y, .d z, .d u, .d v] 29] [.blk 0 0, .blk 1 0] .ret (fun U' ob' => U' = .ret ∧ ob' = [.cells [.d (.v .nilIface)] 40, .cells [.d x, .d y, .d z, .d u, .d v] 29]) := by
  refine triDf_of_runs (Q0 := fun out ob' => out = .ret (.d (.tup [])) ∧ ob' = [.cells [.d (.v .nilIface)] 40, .cells [.d x, .d y, .d z, .d u, .d v] 29]) Tryd.func27 rfl Tryd.ntmps27 (rs := []) rfl rfl rfl 2 rfl ?_ ?_
  · rintro out ob' ⟨rfl, rfl⟩; exact ⟨⟨_, rfl⟩, rfl, rfl⟩
  refine sr ?_; refine o1 (ldb ti40 ?_); refine o1 (f_ineq_nil ii40 ?_); refine nx ?_; refine cd (fun h0 => ?_) (fun h0 => ?_)
  · simp only [nrm, Int.reduceEq, Int.reduceNe, Int.reduceLT, Int.reduceLE] at h0
  (try simp only [nrm, Int.reduceEq, Int.reduceNe, Int.reduceLT, Int.reduceLE] at h0); refine runs_skip ?_; refine fin_normal ?_
  refine fin_od (l := []) rfl rfl ([0, 1]) ([.cells [.d (.v .nilIface)] 40, .cells [.d x, .d y, .d z, .d u, .d v] 29]) rfl rfl rfl ?_ ?_
  · repeat (first | exact boz | refine boc ?_)
  · exact ⟨rfl, rfl⟩
theorem tclos_err (x y z u v : D) (c a : Int) : TriDf Tryd.prog gl 27 [.cells [.d (fltD c a)] 40, .cells [.d x, .d y, .d z, .d u, .d v] 29] [.blk 0 0, .blk 1 0] .ret (fun U' ob' => U' = .ret ∧ ob' = [.cells [.d (fltD c a)] 40, .cells [.d (.v (.int .i64 0)), .d (.v (.int .i64 0)), .d (.v (.string .empty)), .d (.v (.slice none 0 0)), .d (.v (.slice none 0 0))] 29]) := by
  refine triDf_of_runs (Q0 := fun out ob' => out = .ret (.d (.tup [])) ∧ ob' = [.cells [.d (fltD c a)] 40, .cells [.d (.v (.int .i64 0)), .d (.v (.int .i64 0)), .d (.v (.string .empty)), .d (.v (.slice none 0 0)), .d (.v (.slice none 0 0))] 29]) Tryd.func27 rfl Tryd.ntmps27 (rs := []) rfl rfl rfl 2 rfl ?_ ?_
  · rintro out ob' ⟨rfl, rfl⟩; exact ⟨⟨_, rfl⟩, rfl, rfl⟩
  unfold fltD
  refine sr ?_; refine o1 (ldb ti40 ?_); refine o1 (f_ineq_d ii40 ?_); refine nx ?_; refine cdf (fun h0 => ?_) (fun h0 => ?_)
  · simp only [nrm, Int.reduceEq, Int.reduceNe, Int.reduceLT, Int.reduceLE] at h0
  (try simp only [nrm, Int.reduceEq, Int.reduceNe, Int.reduceLT, Int.reduceLE] at h0); refine runs_region ?_; refine o1 (bld ti29 ?_); refine oc (sto ti29 ?_); refine ops_nil ?_; refine fin_normal ?_
  refine fin_od (l := []) rfl rfl ([0, 1]) ([.cells [.d (fltD c a)] 40, .cells [.d (.v (.int .i64 0)), .d (.v (.int .i64 0)), .d (.v (.string .empty)), .d (.v (.slice none 0 0)), .d (.v (.slice none 0 0))] 29]) rfl rfl rfl ?_ ?_
  · repeat (first | exact boz | refine boc ?_)
  · exact ⟨rfl, rfl⟩

theorem parseT_long {s : ByteArray} (h : s.size > 20000) : parseT s = (zeroT, 2, 0) := by unfold parseT; rw [if_pos h]
theorem parseT_fault {s : ByteArray} (h : ¬ s.size > 20000) {a : Nat} (hf : (doneR s (termR (s.size + 1) s ⟨0, none⟩).2).f = some a) : parseT s = (zeroT, 1, (a : Int)) := by
  unfold parseT; rw [if_neg h]; simp only [hf]
theorem parseT_fine {s : ByteArray} (h : ¬ s.size > 20000) (hf : (doneR s (termR (s.size + 1) s ⟨0, none⟩).2).f = none) : parseT s = ((termR (s.size + 1) s ⟨0, none⟩).1, 0, 0) := by
  unfold parseT; rw [if_neg h]; simp only [hf]
theorem tparse_spec (s : ByteArray) : TriD Tryd.prog (glQ g) 12 [.v (.string s)] (· = .tup [(parseT s).1.d, errD (parseT s).2.1 (parseT s).2.2]) := by
  rcases hla : termR (s.size + 1) s ⟨0, none⟩ with ⟨la, pa, fa⟩
  obtain ⟨ka, ma, na, la, aa⟩ := la
  refine triS_of_runsD Tryd.func12 rfl Tryd.ntmps12 (rs := [.cell 2 29, .cell 3 40]) rfl rfl rfl 0 rfl ?_
  refine sr ?_; refine oc (T := fun _ => False) (alc ti29 ?_ (hl := by simp only [List.length_cons, List.length_nil, Nat.reduceAdd]; rfl))
  refine oc (T := fun _ => False) (alc ti40 ?_ (hl := by simp only [List.length_cons, List.length_nil, Nat.reduceAdd]; rfl)); refine nx ?_; refine runs_seq ?_; refine sr ?_; refine o1 (mv ?_); refine o1 (le3 ut9 ?_); refine o1 (igt ?_)
  refine nx ?_; refine cd (fun h1 => ?_) (fun h1 => ?_)
  · (try simp only [nrm, Int.reduceEq, Int.reduceNe, Int.reduceLT, Int.reduceLE] at h1)
    refine kp [3, 2] ?_; refine sr ?_; refine o1 (ldb ti29 ?_); refine o1 (bld ti31 ?_); refine oc (T := fun _ => False) (bx ti31 ?_ (hl := by simp only [List.length_cons, List.length_nil, Nat.reduceAdd]; rfl))
    refine ops_freeze 2 rfl rfl rfl rfl rfl rfl ?_; refine o1 (f_iface_d ?_); refine oc (sto ti29 ?_); refine oc (sto ti40 ?_); refine nx ?_; refine runs_ret ?_; refine seq_ret ?_; refine fin_ret ?_
    refine fin_dl ⟨_, _, rfl, (from_cell rfl rfl ti29 rfl rfl rfl rfl), ⟨_, _, rfl, (from_cell rfl rfl ti40 rfl rfl rfl rfl), rfl⟩⟩ rfl (.tup [zeroT.d, fltD 2 0]) (by repeat (first | exact .refl _ | exact .nil | refine .agg ?_ | refine .tup ?_ | refine .cons ?_ ?_)) ?_
    rw [parseT_long (by omega)]; rfl
  (try simp only [nrm, Int.reduceEq, Int.reduceNe, Int.reduceLT, Int.reduceLE] at h1); refine runs_skip ?_; refine seq_normal ?_; refine rd_start ?_; refine rd_defer_c ca27 rfl rfl rfl rfl rfl rfl rfl rfl rfl ?_
  refine rd_defer_f ca28 rfl rfl rfl rfl rfl ?_; refine rd_go 2 rfl ?_; refine runs_seq ?_
  have hs : s.size ≤ 1099511627776 := by omega
  have hlv := sread_spec (g := g) s hs (s.size + 1) 0 (Nat.zero_le _) (by omega)
  rw [hla] at hlv
  unfold scA scO at hlv
  have hle := termR_le (s := s) (s.size + 1) ⟨0, none⟩ (Nat.zero_le _)
  rw [hla] at hle
  simp only at hle
  refine runs_region ?_; refine o1 (mv ?_); refine oc (op_callo ca29 rfl rfl rfl rfl (new_spec s hs) [] .nil rfl rfl rfl rfl (fir .nil) (fun s ob' hq => ?_) (fun s ob' hq => ?_))
  rotate_left
  · first | exact hq.elim | cases hq.1
  obtain ⟨hq1, rfl⟩ := hq; cases hq1
  unfold scA scO
  refine ⟨_, _, _, _, _, rfl, rfl, rfl, rfl, rfl, ?_⟩; refine o1 (asg ?_); refine nx ?_; refine kp [4, 3, 2] ?_; refine sr ?_; refine o1 (mv ?_)
  refine oc (op_callo ca30 rfl rfl rfl rfl (hlv) [2] (boc .nil) rfl rfl rfl rfl (fir .nil) (fun s ob' hq => ?_) (fun s ob' hq => ?_))
  rotate_left
  · obtain ⟨a, hfa, rfl, rfl⟩ := hq.pan
    refine ⟨_, _, _, _, _, rfl, rfl, rfl, rfl, rfl, ?_⟩
    simp only at hfa; subst hfa
    refine ⟨_, rfl, fun n => ?_⟩; refine lv_call (catch_pan _ 1 a) [1] (.cons rfl (.cells rfl (FitL.rfl _)) .nil) rfl rfl rfl rfl (.cons (.refl _) .nil) (fun U' ob' hq => ?_); obtain ⟨rfl, rfl⟩ := hq; refine ⟨_, _, _, _, rfl, rfl, rfl, rfl, ?_⟩
    refine lv_call (tclos_err _ _ _ _ _ 1 a) [1, 0] (.cons rfl (.cells rfl (FitL.rfl _)) (.cons rfl (.cells rfl (FitL.rfl _)) .nil)) rfl rfl rfl rfl (.cons (.refl _) (.cons (.refl _) .nil)) (fun U' ob' hq => ?_); obtain ⟨rfl, rfl⟩ := hq
    refine ⟨_, _, _, _, rfl, rfl, rfl, rfl, ?_⟩; refine lv_end rfl ?_
    refine fin_dl ⟨_, _, rfl, (from_cell rfl rfl ti29 rfl rfl rfl rfl), ⟨_, _, rfl, (from_cell rfl rfl ti40 rfl rfl rfl rfl), rfl⟩⟩ rfl (.tup [zeroT.d, fltD 1 a]) (.tup (.cons (.agg (.cons (.refl _) (.cons (.refl _) (.cons (.refl _) (.cons .nil (.cons .nil .nil)))))) (.cons (.refl _) .nil))) ?_
    rw [parseT_fault (by omega) (a := a) (by rw [hla]; exact doneR_some)]; rfl
  obtain ⟨hfa, rfl, rfl⟩ := hq.ret
  simp only at hfa; subst hfa
  unfold scA scO
  refine ⟨_, _, _, _, _, rfl, rfl, rfl, rfl, rfl, ?_⟩; refine oc (sto ti29 ?_); refine nx ?_; refine sr ?_; refine o1 (mv ?_)
  refine oc (op_callo ca31 rfl rfl rfl rfl (send_spec s (stepAt s pa) (stepTok s pa) (tokR s pa).2.1) [2] (boc .nil) rfl rfl rfl rfl (fir .nil) (fun s ob' hq => ?_) (fun s ob' hq => ?_))
  rotate_left
  · rcases hq with ⟨_, hq1, _⟩ | ⟨hte, hq1, rfl⟩
    · cases hq1
    cases hq1; refine ⟨_, _, _, _, _, rfl, rfl, rfl, rfl, rfl, ?_⟩; refine ⟨_, rfl, fun n => ?_⟩
    refine lv_call (catch_pan _ 1 (tokR s pa).2.1) [1] (.cons rfl (.cells rfl (FitL.rfl _)) .nil) rfl rfl rfl rfl (.cons (.refl _) .nil) (fun U' ob' hq => ?_); obtain ⟨rfl, rfl⟩ := hq; refine ⟨_, _, _, _, rfl, rfl, rfl, rfl, ?_⟩
    refine lv_call (tclos_err _ _ _ _ _ 1 (tokR s pa).2.1) [1, 0] (.cons rfl (.cells rfl (FitL.rfl _)) (.cons rfl (.cells rfl (FitL.rfl _)) .nil)) rfl rfl rfl rfl (.cons (.refl _) (.cons (.refl _) .nil)) (fun U' ob' hq => ?_)
    obtain ⟨rfl, rfl⟩ := hq; refine ⟨_, _, _, _, rfl, rfl, rfl, rfl, ?_⟩; refine lv_end rfl ?_
    refine fin_dl ⟨_, _, rfl, (from_cell rfl rfl ti29 rfl rfl rfl rfl), ⟨_, _, rfl, (from_cell rfl rfl ti40 rfl rfl rfl rfl), rfl⟩⟩ rfl (.tup [zeroT.d, fltD 1 (tokR s pa).2.1]) (.tup (.cons (.agg (.cons (.refl _) (.cons (.refl _) (.cons (.refl _) (.cons .nil (.cons .nil .nil)))))) (.cons (.refl _) .nil))) ?_
    rw [parseT_fault (by omega) (a := (tokR s pa).2.1) (by rw [hla]; exact doneR_no hte)]; rfl
  rcases hq with ⟨hte, hq1, rfl⟩ | ⟨_, hq1, _⟩
  rotate_left
  · cases hq1
  cases hq1; refine ⟨_, _, _, _, _, rfl, rfl, rfl, rfl, rfl, ?_⟩; refine nx ?_; refine kp [3, 2] ?_; refine sr ?_; refine o1 (ldb ti29 ?_); refine oc (sto ti29 ?_); refine oc (sto ti40 ?_); refine nx ?_; refine runs_ret ?_; refine finT_ret ?_
  refine lv_call (catch_ret _) [1] (.cons rfl (.cells rfl (FitL.rfl _)) .nil) rfl rfl rfl rfl (.cons (.refl _) .nil) (fun U' ob' hq => ?_); obtain ⟨rfl, rfl⟩ := hq; refine ⟨_, _, _, _, rfl, rfl, rfl, rfl, ?_⟩
  refine lv_call (tclos_nil _ _ _ _ _) [1, 0] (.cons rfl (.cells rfl (FitL.rfl _)) (.cons rfl (.cells rfl (FitL.rfl _)) .nil)) rfl rfl rfl rfl (.cons (.refl _) (.cons (.refl _) .nil)) (fun U' ob' hq => ?_); obtain ⟨rfl, rfl⟩ := hq
  refine ⟨_, _, _, _, rfl, rfl, rfl, rfl, ?_⟩; refine lv_end rfl ?_
  refine fin_dl ⟨_, _, rfl, (from_cell rfl rfl ti29 rfl rfl rfl rfl), ⟨_, _, rfl, (from_cell rfl rfl ti40 rfl rfl rfl rfl), rfl⟩⟩ rfl (.tup [(Trm.mk ka ma na la aa).d, .v .nilIface]) (by exact .refl _) ?_
  rw [parseT_fine (by omega) (by rw [hla]; exact doneR_yes hte), hla]; rfl
end Go.Proofs.YtneaancanfpdhaaDoor
namespace Go.Proofs.YtneaancanfpdhaaDoor
open Go Go.Vd Go.RowKit
attribute [local irreducible] Runs OpsR OpR FloatR AnyR AnyO
variable {g gl : Nat → List D}

theorem fclos_nil (x : D) : TriDf Tryd.prog gl 36 [.cells [.d (.v .nilIface)] 40, .cells [.d x] 48] [.blk 0 0, .blk 1 0] .ret (fun U' ob' => U' = .ret ∧ ob' = [.cells [.d (.v .nilIface)] 40, .cells [.d x] 48]) := by
  refine triDf_of_runs (Q0 := fun out ob' => out = .ret (.d (.tup [])) ∧ ob' = [.cells [.d (.v .nilIface)] 40, .cells [.d x] 48]) Tryd.func36 rfl Tryd.ntmps36 (rs := []) rfl rfl rfl 2 rfl ?_ ?_
  · rintro out ob' ⟨rfl, rfl⟩; exact ⟨⟨_, rfl⟩, rfl, rfl⟩
  refine sr ?_; refine o1 (ldb ti40 ?_); refine o1 (f_ineq_nil ii40 ?_); refine nx ?_; refine cd (fun h0 => ?_) (fun h0 => ?_)
  · simp only [nrm, Int.reduceEq, Int.reduceNe, Int.reduceLT, Int.reduceLE] at h0
  (try simp only [nrm, Int.reduceEq, Int.reduceNe, Int.reduceLT, Int.reduceLE] at h0); refine runs_skip ?_; refine fin_normal ?_; refine fin_od (l := []) rfl rfl ([0, 1]) ([.cells [.d (.v .nilIface)] 40, .cells [.d x] 48]) rfl rfl rfl ?_ ?_
  · repeat (first | exact boz | refine boc ?_)
  · exact ⟨rfl, rfl⟩
theorem fclos_err (x : D) (c a : Int) : TriDf Tryd.prog gl 36 [.cells [.d (fltD c a)] 40, .cells [.d x] 48] [.blk 0 0, .blk 1 0] .ret (fun U' ob' => U' = .ret ∧ ob' = [.cells [.d (fltD c a)] 40, .cells [.d (.v (.slice none 0 0))] 48]) := by
  refine triDf_of_runs (Q0 := fun out ob' => out = .ret (.d (.tup [])) ∧ ob' = [.cells [.d (fltD c a)] 40, .cells [.d (.v (.slice none 0 0))] 48]) Tryd.func36 rfl Tryd.ntmps36 (rs := []) rfl rfl rfl 2 rfl ?_ ?_
  · rintro out ob' ⟨rfl, rfl⟩; exact ⟨⟨_, rfl⟩, rfl, rfl⟩
  unfold fltD
  refine sr ?_; refine o1 (ldb ti40 ?_); refine o1 (f_ineq_d ii40 ?_); refine nx ?_; refine cdf (fun h0 => ?_) (fun h0 => ?_)
  · simp only [nrm, Int.reduceEq, Int.reduceNe, Int.reduceLT, Int.reduceLE] at h0
  (try simp only [nrm, Int.reduceEq, Int.reduceNe, Int.reduceLT, Int.reduceLE] at h0); refine runs_region ?_; refine oc (sto ti48 ?_); refine ops_nil ?_; refine fin_normal ?_
  refine fin_od (l := []) rfl rfl ([0, 1]) ([.cells [.d (fltD c a)] 40, .cells [.d (.v (.slice none 0 0))] 48]) rfl rfl rfl ?_ ?_
  · repeat (first | exact boz | refine boc ?_)
  · exact ⟨rfl, rfl⟩

theorem parseF_long {s : ByteArray} (h : s.size > 200000) : parseF s = ([], 2, 0) := by unfold parseF; rw [if_pos h]
theorem parseF_any {s : ByteArray} (h : ¬ s.size > 200000) : parseF s = parseAny s := by unfold parseF; rw [if_neg h]
theorem file_stepN {s : ByteArray} {r0 : RS} {q qb m : Nat} {acc : List Dec} {x : Dec} (hinv : q ≤ s.size ∧ acc.length + m = s.size + 2 ∧ s.size - q < m ∧ fileR (s.size + 2) s r0 = (acc ++ (fileR m s ⟨q, none⟩).1, (fileR m s ⟨q, none⟩).2))
    (h : ¬ atEnd s ⟨q, none⟩) (hX : declR s ⟨q, none⟩ = (x, ⟨qb, none⟩)) :
    qb ≤ s.size ∧ (acc ++ [x]).length + (m - 1) = s.size + 2 ∧ s.size - qb < m - 1 ∧ fileR (s.size + 2) s r0 = (acc ++ [x] ++ (fileR (m - 1) s ⟨qb, none⟩).1, (fileR (m - 1) s ⟨qb, none⟩).2) := by
  have := file_step (r' := ⟨q, none⟩) (x := x) ⟨hinv.1, hinv.2.1, fun _ => hinv.2.2.1, hinv.2.2.2⟩ ⟨rfl, h⟩ (by rw [hX])
  rw [hX] at this
  exact ⟨this.1, this.2.1, this.2.2.1 rfl, this.2.2.2⟩
theorem file_bad {s : ByteArray} {r0 r' : RS} {m a : Nat} {acc : List Dec} (h4 : fileR (s.size + 2) s r0 = (acc ++ (fileR m s r').1, (fileR m s r').2)) (hm : 0 < m) (h : r'.f = none ∧ ¬ atEnd s r') (hf : (declR s r').2.f = some a) : (fileR (s.size + 2) s r0).2.f = some a := by
  rw [h4]
  obtain ⟨m, rfl⟩ : ∃ k, m = k + 1 := ⟨m - 1, by omega⟩
  simp only [fileR]
  rw [if_pos h]
  rw [file_stop (by rintro ⟨e, _⟩; rw [hf] at e; cases e)]
  exact hf
theorem parseAny_fault {s : ByteArray} {a : Nat} (hf : (fileR (s.size + 2) s ⟨0, none⟩).2.f = some a) : parseAny s = ([], 1, (a : Int)) :=
  parseAny_bad (acc := (fileR (s.size + 2) s ⟨0, none⟩).1) (r := (fileR (s.size + 2) s ⟨0, none⟩).2) rfl hf
theorem atEnd_step {s : ByteArray} {q : Nat} : atEnd s ⟨q, none⟩ ↔ stepTok s q = .empty := by
  unfold atEnd stepTok
  constructor
  · rintro ⟨h1, h2⟩
    rw [if_pos h1]; exact h2
  · intro h
    split at h
    · rename_i h1; exact ⟨h1, h⟩
    · exact absurd h (by decide)

theorem fparse_spec (s : ByteArray) (e : D) (hg : (glQ g) (laysC172_ren.g 15) = [e]) (he : ifcD e) : TriD Tryd.prog (glQ g) 16 [.v (.string s)] (· = .tup [.sl 15 (decs (parseF s).1), errD (parseF s).2.1 (parseF s).2.2]) := by
  refine triS_of_runsD Tryd.func16 rfl Tryd.ntmps16 (rs := [.cell 2 48, .cell 3 40]) rfl rfl rfl 0 rfl ?_
  refine sr ?_; refine oc (T := fun _ => False) (alc ti48 ?_ (hl := by simp only [List.length_cons, List.length_nil, Nat.reduceAdd]; rfl))
  refine oc (T := fun _ => False) (alc ti40 ?_ (hl := by simp only [List.length_cons, List.length_nil, Nat.reduceAdd]; rfl)); refine nx ?_; refine runs_seq ?_; refine sr ?_; refine o1 (mv ?_); refine o1 (le3 ut9 ?_); refine o1 (igt ?_)
  refine nx ?_; refine cd (fun h1 => ?_) (fun h1 => ?_)
  · (try simp only [nrm, Int.reduceEq, Int.reduceNe, Int.reduceLT, Int.reduceLE] at h1)
    refine kp [3, 2] ?_; refine sr ?_; refine o1 (bld ti31 ?_); refine oc (T := fun _ => False) (bx ti31 ?_ (hl := by simp only [List.length_cons, List.length_nil, Nat.reduceAdd]; rfl)); refine o1 (f_iface ?_)
    refine ops_freeze 2 rfl rfl rfl rfl rfl rfl ?_; refine oc (sto ti48 ?_); refine oc (sto ti40 ?_); refine nx ?_; refine runs_ret ?_; refine seq_ret ?_; refine fin_ret ?_
    refine fin_dl ⟨_, _, rfl, (from_cell rfl rfl ti48 rfl rfl rfl rfl), ⟨_, _, rfl, (from_cell rfl rfl ti40 rfl rfl rfl rfl), rfl⟩⟩ rfl (.tup [.sl 15 (decs []), fltD 2 0]) (by repeat (first | exact .refl _ | exact .nil | refine .tup ?_ | refine .cons ?_ ?_)) ?_
    rw [parseF_long (by omega)]; rfl
  (try simp only [nrm, Int.reduceEq, Int.reduceNe, Int.reduceLT, Int.reduceLE] at h1); refine runs_skip ?_; refine seq_normal ?_; refine rd_start ?_; refine rd_defer_c ca36 rfl rfl rfl rfl rfl rfl rfl rfl rfl ?_
  refine rd_defer_f ca28 rfl rfl rfl rfl rfl ?_; refine rd_go 2 rfl ?_; refine runs_seq ?_
  have hs : s.size ≤ 1099511627776 := by omega
  refine runs_region ?_; refine o1 (mv ?_); refine oc (op_callo ca29 rfl rfl rfl rfl (new_spec s hs) [] .nil rfl rfl rfl rfl (fir .nil) (fun s ob' hq => ?_) (fun s ob' hq => ?_))
  rotate_left
  · first | exact hq.elim | cases hq.1
  obtain ⟨hq1, rfl⟩ := hq; cases hq1; refine ⟨_, _, _, _, _, rfl, rfl, rfl, rfl, rfl, ?_⟩; refine o1 (asg ?_); refine nx ?_; refine runs_seq ?_; refine runs_block ?_; refine kp [4, 3, 2] ?_; refine runs_nilrow 80 15 rfl ?_
  apply runs_loop_o (ι := Nat × List Dec × Nat) (fun ⟨m, acc, q⟩ => []) (fun ⟨m, acc, q⟩ => [.cells [.own 3 15 (decs acc)] 48, .cells [.d (.v .nilIface)] 40, scA s q, .row 80 15]) [4, 3, 2] (fun ⟨m, acc, q⟩ => q ≤ s.size ∧ acc.length + m = s.size + 2 ∧ s.size - q < m ∧ fileR (s.size + 2) s ⟨0, none⟩ = (acc ++ (fileR m s ⟨q, none⟩).1, (fileR m s ⟨q, none⟩).2)) (fun ⟨m, acc, q⟩ => m) ((s.size + 2, [], 0)) ([0, 1, 2, 3])
  case hk => exact rfl
  case hI =>
    exact ⟨Nat.zero_le _, by simp, by omega, rfl⟩
  case hm =>
    refine mo ?_ (sly (sly (sly slz)))
    repeat (first | exact boz | exact fiz | refine boc ?_ | refine bon ?_ | refine boe ?_ ?_ | refine .cons (.nil rfl) ?_)
  case h =>
    rintro ⟨m, acc, q⟩ hinv
    try dsimp only at hinv
    refine kp [4, 3, 2] ?_; refine runs_seq ?_; refine sr ?_; refine o1 (mv ?_); refine o1 (ncb ?_); refine o1 (fdb ti76 ?_); refine o1 (ldb ti9 ?_); refine o1 (sne ?_); refine nx ?_; refine cdf (fun h6 => ?_) (fun h6 => ?_)
    · (try simp only [nrm, Int.reduceEq, Int.reduceNe, Int.reduceLT, Int.reduceLE] at h6)
      refine runs_exit ?_; refine seq_exit ?_; refine seq_exit ?_; refine inb_exit ?_; refine seq_normal ?_; refine kp [3, 2] ?_; refine sr ?_; refine o1 (ldb ti48 ?_); refine oc (sto ti48 ?_); refine oc (sto ti40 ?_); refine nx ?_
      refine runs_ret ?_; refine finT_ret ?_; refine lv_call (catch_ret _) [1] (.cons rfl (.cells rfl (FitL.rfl _)) .nil) rfl rfl rfl rfl (.cons (.refl _) .nil) (fun U' ob' hq => ?_); obtain ⟨rfl, rfl⟩ := hq
      refine ⟨_, _, _, _, rfl, rfl, rfl, rfl, ?_⟩
      refine lv_call (fclos_nil _) [1, 0] (.cons rfl (.cells rfl (FitL.rfl _)) (.cons rfl (.cells rfl (.cons (.toD rfl) .nil)) .nil)) rfl rfl rfl rfl (.cons (.refl _) (.cons (.refl _) .nil)) (fun U' ob' hq => ?_); obtain ⟨rfl, rfl⟩ := hq
      refine ⟨_, _, _, _, rfl, rfl, rfl, rfl, ?_⟩; refine lv_end rfl ?_
      refine fin_dl ⟨_, _, rfl, (from_cell rfl rfl ti48 rfl rfl rfl rfl), ⟨_, _, rfl, (from_cell rfl rfl ti40 rfl rfl rfl rfl), rfl⟩⟩ rfl (.tup [.sl 15 (decs acc), .v .nilIface]) (by exact .refl _) ?_
      rw [parseF_any (by omega), parseAny_good (acc := acc) (r := ⟨q, none⟩) (by rw [hinv.2.2.2, file_stop (by rintro ⟨_, hb⟩; exact hb (atEnd_step.2 h6)), List.append_nil]) rfl]; rfl
    (try simp only [nrm, Int.reduceEq, Int.reduceNe, Int.reduceLT, Int.reduceLE] at h6); refine runs_skip ?_; refine seq_normal ?_; refine runs_block ?_; refine kp [4, 3, 2] ?_
    have hne : ¬ atEnd s ⟨q, none⟩ := fun h => h6 (atEnd_step.1 h)
    have hm1 := hinv.2.2.1
    have hln := decs_len acc
    have hlv := fread_spec (g := g) s hs e hg he q hinv.1
    rcases hla : declR s ⟨q, none⟩ with ⟨x, ⟨qb, fb⟩⟩
    rw [hla] at hlv
    obtain ⟨k, nm, ps, k1, n1, s1, l1, a1, k2, n2, s2, l2, a2, a, cs, rfl⟩ := Dec.case x
    have hlast : decs acc ++ [[.v (.int .i64 k), .v (.string nm), .sl 1 (strs ps), .v (.int .i64 k1), .v (.int .i64 n1), .v (.string s1), .sl 3 (lvls l1), .sl 5 (trms a1), .v (.int .i64 k2), .v (.int .i64 n2), .v (.string s2), .sl 3 (lvls l2), .sl 5 (trms a2), .v (.int .i64 a), .sl 6 (ctrs cs)]] = decs (acc ++ [Dec.mk k nm ps (.mk k1 n1 s1 l1 a1) (.mk k2 n2 s2 l2 a2) a cs]) := (by rw [decs_app]; rfl)
    refine a_start ?_ (hm := by exact mixed); refine A1 0 rfl (ldb ti48 ⟨_, rfl, ?_⟩); refine A1 1 rfl (mv ⟨_, rfl, ?_⟩)
    refine A2 2 rfl (op_callo ca37 rfl rfl rfl rfl (hlv) [2] (boc .nil) rfl rfl rfl rfl (fir .nil) (fun s ob' hq => ?_) (fun s ob' hq => ?_))
    rotate_left
    · obtain ⟨a', hfa, rfl, rfl⟩ := hq.pan
      refine ⟨_, _, _, _, _, rfl, rfl, rfl, rfl, rfl, ?_⟩
      simp only at hfa; subst hfa
      refine ⟨_, rfl, fun n => ?_⟩; refine lv_call (catch_pan _ 1 a') [1] (.cons rfl (.cells rfl (FitL.rfl _)) .nil) rfl rfl rfl rfl (.cons (.refl _) .nil) (fun U' ob' hq => ?_); obtain ⟨rfl, rfl⟩ := hq; refine ⟨_, _, _, _, rfl, rfl, rfl, rfl, ?_⟩
      refine lv_call (fclos_err _ 1 a') [1, 0] (.cons rfl (.cells rfl (FitL.rfl _)) (.cons rfl (.cells rfl (.cons (.toD rfl) .nil)) .nil)) rfl rfl rfl rfl (.cons (.refl _) (.cons (.refl _) .nil)) (fun U' ob' hq => ?_); obtain ⟨rfl, rfl⟩ := hq
      refine ⟨_, _, _, _, rfl, rfl, rfl, rfl, ?_⟩; refine lv_end rfl ?_
      refine fin_dl ⟨_, _, rfl, (from_cell rfl rfl ti48 rfl rfl rfl rfl), ⟨_, _, rfl, (from_cell rfl rfl ti40 rfl rfl rfl rfl), rfl⟩⟩ rfl (.tup [.sl 15 (decs []), fltD 1 a']) (.tup (.cons .nil (.cons (.refl _) .nil))) ?_
      rw [parseF_any (by omega), parseAny_fault (file_bad hinv.2.2.2 (by omega) ⟨rfl, hne⟩ (by rw [hla]))]; rfl
    obtain ⟨hfa, rfl, rfl⟩ := hq.ret
    simp only at hfa; subst hfa
    refine ⟨_, _, _, _, _, rfl, rfl, rfl, rfl, rfl, ?_⟩
    refine A2 (T := fun _ => False) 3 rfl (op_lit sl48 [.tmp 21] ti80 rfl rfl rfl rfl rfl rfl rfl (by decide) (by decide) (by decide) (by simp only [List.length_cons, List.length_nil, Nat.reduceAdd]; rfl) rfl ?_)
    refine A2 4 rfl (op_append sl48 rfl rfl rfl rfl rfl rfl rfl (.inl rfl) (by decide) (by simp) (by first | decide | (simp only [maxLen, List.length_cons, List.length_nil, List.length_append, List.length_map]; omega) | omega) rfl rfl rfl ?_)
    refine A2 5 rfl (sto ti48 ?_); refine a_end ?_; refine inb_normal ?_; refine seq_back ?_
    rw [hlast]
    refine back_c ((m - 1, acc ++ [Dec.mk k nm ps (.mk k1 n1 s1 l1 a1) (.mk k2 n2 s2 l2 a2) a cs], qb)) rfl ?_ ([0, 1, 2, 3]) ?_
    · exact ⟨file_stepN hinv hne hla, show m - 1 < m by omega⟩
    · refine mo ?_ (sly (sly (sly slz)))
      repeat (first | exact boz | refine boc ?_ | refine bor ?_)
end Go.Proofs.YtneaancanfpdhaaDoor
namespace Go.Proofs.YtneaancanfpdhaaDoor
open Go Go.Vd Go.RowKit
attribute [local irreducible] Runs OpsR OpR FloatR AnyR AnyO
variable {g gl : Nat → List D}

section
variable {P : Program} {GL : Nat → List D} {o : Oper} {σ : St} {K : SV → List Nat → Prop}
theorem errD_ifc {c a : Int} (h : ¬ c = 0) : ∃ U d, errD c a = .ifc U d := by rw [errD_ne h]; exact ⟨_, _, rfl⟩
/-- an error, of which it is not known whether it is nil, against nil -/
theorem fl_ineq_err {T T' : TypeId} {x : Operand} {c a : Int} (hp : isIfc P T = true) (ho : o.op = .binOp .neq T x (.const .nilIface) T') (hx : evO GL σ.sl x = some (.d (errD c a))) (hK : K (.d (.v (.bool (decide (¬ c = 0))))) []) : FloatR P GL o σ K := by
  by_cases h : c = 0
  · subst h
    exact fl_ineq_nil hp ho hx hK
  · obtain ⟨U, d, hd⟩ := errD_ifc (a := a) h
    rw [hd] at hx
    rw [decide_eq_true h] at hK
    exact fl_ineq_d hp ho hx hK
end
/-- (axiom A (u) (sort u)) -/
def litA : ByteArray := ⟨#[40, 97, 120, 105, 111, 109, 32, 65, 32, 40, 117, 41, 32, 40, 115, 111, 114, 116, 32, 117, 41, 41]⟩
theorem litA_reads : (parseF litA).2.1 = 0 ∧ (parseF litA).1.length = 1 := by decide +kernel
theorem fileReads_spec (hg3 : g 2 = wordsD) (hg7 : g (laysM246_ren.g 17) = p10D) (e : D) (hge : (glQ g) (laysC172_ren.g 15) = [e]) (he : ifcD e) (l : List Step) : TriD Tryd.prog (glQ g) 4 [.sl 6 (steps l)] (· = .v (.bool true)) := by
  have hlen := steps_len l
  have q0 := fparse_spec litA e hge he
  have hlc0 := decs_len (parseF litA).1
  rw [litA_reads.1, errD_zero] at q0
  rw [litA_reads.2] at hlc0
  refine triD_of_runs Tryd.func4 rfl Tryd.ntmps4 (rs := [.tmp 2]) rfl rfl rfl ?_
  refine sr ?_; refine o1 (asg ?_); refine nx ?_; refine sr ?_; refine oc (cv ca16 rfl rfl (q0) (fir .nil) ?_); refine o1 (mv ?_); refine o1 (ex2 ?_); refine o1 (ex2 ?_); refine o1 (asg ?_); refine o1 (asg ?_); refine nx ?_; refine runs_seq ?_
  refine kp [4, 3, 0] ?_; refine sr ?_; refine o1 (mv ?_); refine o1 (f_ineq_nil ii40 ?_); refine o1 (mv ?_)
  apply ops_or (yt := 19) (d := 16) 3 rfl rfl rfl (.none rfl) rfl rfl
  case h1 =>
    intro hb4 hK
    have hc := hb4; (try simp only [nrm, Int.reduceEq, Int.reduceNe, Int.reduceLT, Int.reduceLE] at hc)
    refine gye ?_ (hbw := by exact hb4); refine o1 (mv ?_); refine gye ?_ (hbw := by exact hb4); refine o1 (le1 us48 ?_); refine gye ?_ (hbw := by exact hb4); refine o1 (ine ?_); exact hK [_, _, _] rfl rfl
  case h2 =>
    intro hb4 hK; refine gno ?_ (hbw := by exact hb4); refine gno ?_ (hbw := by exact hb4); refine gno ?_ (hbw := by exact hb4); exact hK [_, _, _] rfl
  refine nx ?_; refine cd (fun h2 => ?_) (fun h2 => ?_)
  · (try simp only [nrm, Int.reduceEq, Int.reduceNe, Int.reduceLT, Int.reduceLE] at h2); omega
  (try simp only [nrm, Int.reduceEq, Int.reduceNe, Int.reduceLT, Int.reduceLE] at h2); refine runs_skip ?_; refine seq_normal ?_; refine runs_seq ?_; refine kp [0] ?_; refine sr ?_; refine o1 (asg ?_); refine nx ?_; refine runs_block ?_
  apply runs_loop_c (ι := Nat) (fun i => [(5, int i)]) [0] (fun i => i ≤ l.length ∧ i ≤ 1152921504606846976) (fun i => l.length - i) (0)
  case hk => exact rfl
  case hI =>
    exact ⟨Nat.zero_le _, by omega⟩
  case hm =>
    refine mo ?_ (sly (sly slz)); exact boz
  case h =>
    rintro i hinv
    try dsimp only at hinv
    refine kp [5, 0] ?_; refine runs_seq ?_; refine sr ?_; refine o1 (mv ?_); refine o1 (mv ?_); refine o1 (le1 us22 ?_); refine o1 (ilt ?_); refine o1 (mv ?_)
    apply ops_and (yt := 27) (d := 25) 2 rfl rfl rfl (.none rfl) rfl rfl
    case h1 =>
      intro hb9 hK
      have hc := hb9; (try simp only [nrm, Int.reduceEq, Int.reduceNe, Int.reduceLT, Int.reduceLE] at hc)
      refine gye ?_ (hbw := by exact hb9); refine o1 (mv ?_); refine gye ?_ (hbw := by exact hb9); refine o1 (ilt ?_); exact hK [_, _] rfl rfl
    case h2 =>
      intro hb9 hK; refine gno ?_ (hbw := by exact hb9); refine gno ?_ (hbw := by exact hb9); exact hK [_, _] rfl
    refine nx ?_; refine cdf (fun h5 => ?_) (fun h5 => ?_)
    · (try simp only [nrm, Int.reduceEq, Int.reduceNe, Int.reduceLT, Int.reduceLE] at h5)
      refine runs_exit ?_; refine seq_exit ?_; refine seq_exit ?_; refine inb_exit ?_; refine seq_normal ?_; refine kp [] ?_; refine sr ?_; refine o1 (asg ?_); refine nx ?_; refine runs_ret ?_; refine fin_ret ?_; refine fin_d1 rfl rfl ?_
      rfl
    (try simp only [nrm, Int.reduceEq, Int.reduceNe, Int.reduceLT, Int.reduceLE] at h5); refine runs_skip ?_; refine seq_normal ?_; refine runs_seq ?_; refine runs_block ?_; refine runs_seq ?_; refine kp [5, 0] ?_
    have hin : i < l.length := by omega
    have q1 := fparse_spec (g := g) l[i].s e hge he
    have hsh := parseF_shape (s := l[i].s)
    obtain ⟨hok, hwt⟩ := parseF_ok l[i].s
    generalize hc : (parseF l[i].s).2.1 = c at q1 hsh
    generalize ha : (parseF l[i].s).2.2 = a at q1
    generalize hds : (parseF l[i].s).1 = ds at q1 hsh hok hwt
    have hld := decs_len ds
    have hlf := wtF_len ds
    have q2 := printAll_spec hg3 hg7 ds hok (by omega)
    refine runs_region ?_; refine o1 (mv ?_); refine o1 (mv ?_); refine o1 (ixs us22 te22 ?_ (he := by exact (step_at hin))); refine o1 (fdc ti25 ?_); refine o1 (ldc ti9 ?_); refine oc (cv ca16 rfl rfl (q1) (fir .nil) ?_); refine o1 (mv ?_)
    refine o1 (ex2 ?_); refine o1 (ex2 ?_); refine o1 (asg ?_); refine o1 (asg ?_); refine nx ?_; refine runs_seq ?_; refine kp [4, 3, 5, 0] ?_; refine sr ?_; refine o1 (mv ?_); refine o1 (fl_ineq_err (c := c) (a := a) ii40 rfl rfl ?_)
    refine nx ?_; refine cd (fun h8 => ?_) (fun h8 => ?_)
    · (try simp only [nrm, Int.reduceEq, Int.reduceNe, Int.reduceLT, Int.reduceLE] at h8)
      refine runs_exit ?_; refine seq_exit ?_; refine inb_exit ?_; refine seq_normal ?_; refine kp [5, 0] ?_; refine runs_region ?_; refine o1 (mv ?_); refine o1 (iad ?_); refine o1 (asg ?_); refine ops_nil ?_; refine seq_back ?_
      refine back_i (i + 1) rfl ?_ ?_
      · exact ⟨⟨by omega, by omega⟩, by omega⟩
      · refine mo ?_ (sly (sly slz))
        exact boz
    (try simp only [nrm, Int.reduceEq, Int.reduceNe, Int.reduceLT, Int.reduceLE] at h8); refine runs_skip ?_; refine seq_normal ?_; refine sr ?_; refine o1 (mv ?_); refine oc (cv ca17 rfl rfl (q2) (fir .nil) ?_); refine o1 (asg ?_); refine nx ?_
    refine runs_seq ?_; refine kp [6, 3, 5, 0] ?_; refine sr ?_; refine o1 (mv ?_); refine o1 (le3 ut9 ?_); refine o1 (igt ?_); refine nx ?_; refine cd (fun h10 => ?_) (fun h10 => ?_)
    · (try simp only [nrm, Int.reduceEq, Int.reduceNe, Int.reduceLT, Int.reduceLE] at h10)
      refine runs_exit ?_; refine seq_exit ?_; refine inb_exit ?_; refine seq_normal ?_; refine kp [5, 0] ?_; refine runs_region ?_; refine o1 (mv ?_); refine o1 (iad ?_); refine o1 (asg ?_); refine ops_nil ?_; refine seq_back ?_
      refine back_i (i + 1) rfl ?_ ?_
      · exact ⟨⟨by omega, by omega⟩, by omega⟩
      · refine mo ?_ (sly (sly slz))
        exact boz
    (try simp only [nrm, Int.reduceEq, Int.reduceNe, Int.reduceLT, Int.reduceLE] at h10); refine runs_skip ?_; refine seq_normal ?_; refine runs_seq ?_
    have hc0 : c = 0 := Decidable.not_not.mp h8
    have q3 := fparse_spec (g := g) (wrF ds) e hge he
    rw [reads_again (hsh hc0) (by omega)] at q3
    simp only [errD_zero] at q3
    refine runs_region ?_; refine o1 (mv ?_); refine oc (cv ca16 rfl rfl (q3) (fir .nil) ?_); refine o1 (mv ?_); refine o1 (ex2 ?_); refine o1 (ex2 ?_); refine o1 (asg ?_); refine o1 (asg ?_); refine nx ?_; refine kp [8, 7, 6, 3, 5, 0] ?_
    refine sr ?_; refine o1 (mv ?_); refine oc (cv ca17 rfl rfl (q2) (fir .nil) ?_); refine o1 (asg ?_); refine nx ?_; refine sr ?_; refine o1 (mv ?_); refine o1 (f_ineq_nil ii40 ?_); refine o1 (mv ?_)
    apply ops_or (yt := 59) (d := 56) 3 rfl rfl rfl (.none rfl) rfl rfl
    case h1 =>
      intro hb4 hK
      have hc := hb4; (try simp only [nrm, Int.reduceEq, Int.reduceNe, Int.reduceLT, Int.reduceLE] at hc)
      refine gye ?_ (hbw := by exact hb4); refine o1 (mv ?_); refine gye ?_ (hbw := by exact hb4); refine o1 (mv ?_); refine gye ?_ (hbw := by exact hb4); refine o1 (sne ?_); exact hK [_, _, _] rfl rfl
    case h2 =>
      intro hb4 hK; refine gno ?_ (hbw := by exact hb4); refine gno ?_ (hbw := by exact hb4); refine gno ?_ (hbw := by exact hb4); exact hK [_, _, _] rfl
    refine o1 (mv ?_)
    apply ops_or (yt := 66) (d := 61) 5 rfl rfl rfl (.none rfl) rfl rfl
    case h1 =>
      intro hb14 hK
      have hc := hb14; (try simp only [nrm, Int.reduceEq, Int.reduceNe, Int.reduceLT, Int.reduceLE] at hc)
      refine gye ?_ (hbw := by exact hb14); refine o1 (mv ?_); refine gye ?_ (hbw := by exact hb14); refine o1 (le1 us48 ?_); refine gye ?_ (hbw := by exact hb14); refine o1 (mv ?_); refine gye ?_ (hbw := by exact hb14); refine o1 (le1 us48 ?_)
      refine gye ?_ (hbw := by exact hb14); refine o1 (ine ?_); exact hK [_, _, _, _, _] rfl rfl
    case h2 =>
      intro hb14 hK; refine gno ?_ (hbw := by exact hb14); refine gno ?_ (hbw := by exact hb14); refine gno ?_ (hbw := by exact hb14); refine gno ?_ (hbw := by exact hb14); refine gno ?_ (hbw := by exact hb14); exact hK [_, _, _, _, _] rfl
    refine nx ?_; refine cd (fun h13 => ?_) (fun h13 => ?_)
    · simp only [nrm, Int.reduceEq, Int.reduceNe, Int.reduceLT, Int.reduceLE] at h13
    (try simp only [nrm, Int.reduceEq, Int.reduceNe, Int.reduceLT, Int.reduceLE] at h13); refine runs_skip ?_; refine inb_normal ?_; refine seq_normal ?_; refine kp [5, 0] ?_; refine runs_region ?_; refine o1 (mv ?_); refine o1 (iad ?_)
    refine o1 (asg ?_); refine ops_nil ?_; refine seq_back ?_; refine back_i (i + 1) rfl ?_ ?_
    · exact ⟨⟨by omega, by omega⟩, by omega⟩
    · refine mo ?_ (sly (sly slz))
      exact boz
end Go.Proofs.YtneaancanfpdhaaDoor
namespace Go.Proofs.YtneaancanfpdhaaDoor
open Go Go.Vd Go.RowKit Go.ChangeShapes Go.WideShapes

theorem own : ownKnob Tryd.prog.godebug = none := by kernel_rfl
def glP (es : Value) : Nat → List D := glQ fun
  | 2 => wordsD
  | 3 => [.v es]
  | 5 => p10D
  | _ => []
theorem globP_of {w : World} {es : Value} (h1 : DenC (memW w) 1 0 (wordsT.map fun s => .v (.string s))) (h2 : DenC (memW w) 2 0 wordsD) (h3 : DenC (memW w) 3 0 [.v es]) (h5 : DenC (memW w) 5 0 p10D) : ∀ b, DenC (memW w) b 0 (glP es b)
  | 0 => trivial
  | 1 => h1
  | 2 => h2
  | 3 => h3
  | 4 => trivial
  | 5 => h5
  | _ + 6 => trivial

def litS (s : ByteArray) : DataW Unit := .lit (.string s.data.toList)
theorem str_lit {W : World} {n : Nat} {v : Value} {x : DataW Unit × List MemPlace} {s : ByteArray} {sp : Nat → Bool} {hd : Bool} (h : DataW.trod (fun _ => ()) Tryd.prog W 0 sp hd n 9 [v] = some x) (hx : x.1 = litS s) : v = .string s := by
  obtain ⟨s', h1, h2, _⟩ := DataW.trod_string ut9 h
  simp only [List.cons.injEq, and_true] at h1
  subst h1 h2
  simp only [litS, DataW.lit.injEq, Lit.string.injEq] at hx
  congr 1
  exact ByteArray.ext (Array.ext' hx)
theorem nth_lit {elems : List (DataW Unit × List MemPlace)} (h : elems.map (·.1) = wordsT.map litS) {i : Nat} (hi : i < wordsT.length) : ∃ x, elems[i]? = some x ∧ x.1 = litS wordsT[i] := by
  have hl := congrArg List.length h
  simp only [List.length_map] at hl
  have h1 := congrArg (fun l => l[i]?) h
  simp only [List.getElem?_map] at h1
  rw [List.getElem?_eq_getElem (show i < elems.length by omega), List.getElem?_eq_getElem hi] at h1
  exact ⟨elems[i], List.getElem?_eq_getElem (by omega), Option.some.inj h1⟩

set_option maxRecDepth 100000 in
theorem twords_of {W : World} {cs : Array Value} {fuel : Nat} {p : List MemPlace} (hv : Tryd.prog.globalNamed "provekernel/term.words" = some 1) (hw : W.var? Tryd.prog "provekernel/term.words" = some cs)
    (hd : DataW.trod (fun _ => ()) Tryd.prog W 0 (fun _ => true) false fuel 95 cs.toList = some (Rows.laid_provekernel_term_words, p)) : DenC (memW W) 1 0 (wordsT.map fun s => .v (.string s)) := by
  have hcell := fun i => World.var?_cell hv hw i
  have c9 : Tryd.prog.cellsOf 9 = 1 := by kernel_rfl
  have c86 : Tryd.prog.cellsOf 95 = 7 := by kernel_rfl
  have hwl : wordsT.length = 7 := rfl
  obtain ⟨xs, m, _, ex, hcl, hl, hel⟩ := DataW.trod_array ua95 hd
  have ex1 : (DataW.agg (wordsT.map litS) : DataW Unit) = .agg (xs.map (·.1)) := congrArg Prod.fst ex
  have ex2 := (DataW.agg.inj ex1).symm
  obtain ⟨l⟩ := cs
  rw [c86] at hcl
  rw [c9] at hel
  have key : ∀ i : Nat, (hi : i < wordsT.length) → l[i]? = some (.string wordsT[i]) := fun i hi => by
    obtain ⟨x, hx1, hx2⟩ := nth_lit ex2 hi
    have := hel i (by omega)
    rw [hx1] at this
    have hil : i < l.length := by have : l.length = 7 := hcl; omega
    have e : (List.take 1 (List.drop (i * 1) l)) = [l[i]] := by rw [Nat.mul_one, List.drop_eq_getElem_cons hil]; rfl
    rw [show (({ toList := l } : Array Value).toList.drop (i * 1)).take 1 = [l[i]] from e] at this
    rw [List.getElem?_eq_getElem hil, str_lit this hx2]
  have hc : ∀ (i : Nat) v, l[i]? = some v → v.oneCell' = true → memW W 1 i = some v := fun i v h h1 => memW_of (by
    have := hcell i
    simpa [h] using this) h1
  exact ⟨⟨_, hc 0 _ (key 0 (by decide)) rfl, rfl⟩, ⟨_, hc 1 _ (key 1 (by decide)) rfl, rfl⟩, ⟨_, hc 2 _ (key 2 (by decide)) rfl, rfl⟩, ⟨_, hc 3 _ (key 3 (by decide)) rfl, rfl⟩, ⟨_, hc 4 _ (key 4 (by decide)) rfl, rfl⟩, ⟨_, hc 5 _ (key 5 (by decide)) rfl, rfl⟩, ⟨_, hc 6 _ (key 6 (by decide)) rfl, rfl⟩, trivial⟩

set_option maxRecDepth 100000 in
theorem lwords_of {W : World} {cs : Array Value} {fuel : Nat} {p : List MemPlace} (hv : Tryd.prog.globalNamed "provekernel/level.words" = some 2) (hw : W.var? Tryd.prog "provekernel/level.words" = some cs)
    (hd : DataW.trod (fun _ => ()) Tryd.prog W 0 (fun _ => true) false fuel 117 cs.toList = some (Rows.laid_provekernel_level_words, p)) : DenC (memW W) 2 0 wordsD := by
  have hcell := fun i => World.var?_cell hv hw i
  have c9 : Tryd.prog.cellsOf 9 = 1 := by kernel_rfl
  have c86 : Tryd.prog.cellsOf 117 = 4 := by kernel_rfl
  obtain ⟨xs, m, _, ex, hcl, hl, hel⟩ := DataW.trod_array ua117 hd
  have ex1 : (DataW.agg ([⟨#[]⟩, ⟨#[115]⟩, ⟨#[109, 97, 120]⟩, ⟨#[105, 109, 97, 120]⟩].map litS) : DataW Unit) = .agg (xs.map (·.1)) := congrArg Prod.fst ex
  have ex2 := (DataW.agg.inj ex1).symm
  obtain ⟨l⟩ := cs
  rw [c86] at hcl
  rw [c9] at hel
  have key : ∀ (i : Nat) (s : ByteArray), ([⟨#[]⟩, ⟨#[115]⟩, ⟨#[109, 97, 120]⟩, ⟨#[105, 109, 97, 120]⟩] : List ByteArray)[i]? = some s → l[i]? = some (.string s) := fun i s hi => by
    have h1 := congrArg (fun l => l[i]?) ex2
    simp only [List.getElem?_map, hi, Option.map_some] at h1
    obtain ⟨x, hx1, hx2⟩ := Option.map_eq_some_iff.1 h1
    have hi4 : i < 4 := (List.getElem?_eq_some_iff.1 hi).1
    have := hel i hi4
    rw [hx1] at this
    have hil : i < l.length := by have : l.length = 4 := hcl; omega
    have e : (List.take 1 (List.drop (i * 1) l)) = [l[i]] := by rw [Nat.mul_one, List.drop_eq_getElem_cons hil]; rfl
    rw [show (({ toList := l } : Array Value).toList.drop (i * 1)).take 1 = [l[i]] from e] at this
    rw [List.getElem?_eq_getElem hil, str_lit this hx2]
  have hc : ∀ (i : Nat) v, l[i]? = some v → v.oneCell' = true → memW W 2 i = some v := fun i v h h1 => memW_of (by
    have := hcell i
    simpa [h] using this) h1
  exact ⟨⟨_, hc 0 _ (key 0 _ rfl) rfl, rfl⟩, ⟨_, hc 1 _ (key 1 _ rfl) rfl, rfl⟩, ⟨_, hc 2 _ (key 2 _ rfl) rfl, rfl⟩, ⟨_, hc 3 _ (key 3 _ rfl) rfl, rfl⟩, trivial⟩
theorem int_lit {W : World} {n : Nat} {v : Value} {x : DataW Unit × List MemPlace} {z : Int} {sp : Nat → Bool} {hd : Bool} (h : DataW.trod (fun _ => ()) Tryd.prog W 0 sp hd n 126 [v] = some x) (hx : x.1 = .lit (.int .u64 z)) : v = .int .u64 z := by
  obtain ⟨s', h1, h2, _⟩ := DataW.trod_int ui126 h
  simp only [List.cons.injEq, and_true] at h1
  subst h1 h2
  simp only [DataW.lit.injEq, Lit.int.injEq] at hx
  rw [hx.2]
theorem den_map {m : Mem} {b : Nat} {α : Type} (f : α → D) : ∀ {l : List α} {off : Nat}, (∀ (i : Nat) x, l[i]? = some x → ∃ v, m b (off + i) = some v ∧ (f x).Den m v) → DenC m b off (l.map f)
  | [], _, _ => trivial
  | x :: r, off, h => ⟨by simpa using h 0 x rfl, den_map f fun i y hy => by
      have := h (i + 1) y (by simpa using hy)
      rwa [show off + (i + 1) = off + 1 + i by omega] at this⟩
set_option maxRecDepth 100000 in
theorem p10_of {W : World} {cs : Array Value} {fuel : Nat} {p : List MemPlace} (hv : Tryd.prog.globalNamed "internal/strconv.uint64pow10" = some 5) (hw : W.var? Tryd.prog "internal/strconv.uint64pow10" = some cs)
    (hd : DataW.trod (fun _ => ()) Tryd.prog W 0 (fun _ => true) false fuel 140 cs.toList = some (Rows.laid_internal_strconv_uint64pow10, p)) : DenC (memW W) 5 0 p10D := by
  have hcell := fun i => World.var?_cell hv hw i
  have c9 : Tryd.prog.cellsOf 126 = 1 := by kernel_rfl
  have c86 : Tryd.prog.cellsOf 140 = 20 := by kernel_rfl
  obtain ⟨xs, m, _, ex, hcl, hl, hel⟩ := DataW.trod_array ua140 hd
  have ex1 : (DataW.agg (Lib.pow10Tab.map fun z => DataW.lit (.int .u64 z)) : DataW Unit) = .agg (xs.map (·.1)) := congrArg Prod.fst ex
  have ex2 := (DataW.agg.inj ex1).symm
  obtain ⟨l⟩ := cs
  rw [c86] at hcl
  rw [c9] at hel
  have key : ∀ (i : Nat) (z : Int), Lib.pow10Tab[i]? = some z → l[i]? = some (.int .u64 z) := fun i z hi => by
    have h1 := congrArg (fun l => l[i]?) ex2
    simp only [List.getElem?_map, hi, Option.map_some] at h1
    obtain ⟨x, hx1, hx2⟩ := Option.map_eq_some_iff.1 h1
    have hi4 : i < 20 := by have := (List.getElem?_eq_some_iff.1 hi).1; rwa [Lib.pow10Tab_length] at this
    have := hel i hi4
    rw [hx1] at this
    have hil : i < l.length := by have : l.length = 20 := hcl; omega
    have e : (List.take 1 (List.drop (i * 1) l)) = [l[i]] := by rw [Nat.mul_one, List.drop_eq_getElem_cons hil]; rfl
    rw [show (({ toList := l } : Array Value).toList.drop (i * 1)).take 1 = [l[i]] from e] at this
    rw [List.getElem?_eq_getElem hil, int_lit this hx2]
  have hc : ∀ (i : Nat) v, l[i]? = some v → v.oneCell' = true → memW W 5 i = some v := fun i v h h1 => memW_of (by
    have := hcell i
    simpa [h] using this) h1
  exact den_map _ fun i z hz => ⟨_, by rw [Nat.zero_add]; exact hc i _ (key i z hz) rfl, rfl⟩
theorem es_of {W : World} {cs : Array Value} {fuel : Nat} {p : List MemPlace} (hv : Tryd.prog.globalNamed "strconv.ErrSyntax" = some 3) (hw : W.var? Tryd.prog "strconv.ErrSyntax" = some cs)
    (hd : DataW.trod (fun _ => ()) Tryd.prog W 0 (fun _ => true) false fuel 40 cs.toList = some (Rows.laid_strconv_ErrSyntax, p)) : ∃ u v, DenC (memW W) 3 0 [.v (.iface u v)] := by
  have hu : ∃ ms, Tryd.prog.underlying 40 = some (.interface ms) := ⟨_, Tryd.underlying40⟩
  obtain ⟨ms, hu⟩ := hu
  obtain ⟨_, u, v, hcs, _, _⟩ := iface_of_trod hu hd
  obtain ⟨l⟩ := cs
  simp only at hcs
  subst hcs
  exact ⟨u, v, ⟨⟨_, memW_of (World.var?_cell hv hw 0) rfl, rfl⟩, trivial⟩⟩

theorem glob_of_laid {W : World} (h : laidMetH Tryd.prog Rows.fileReadsRow.laid W) : ∃ u v, ∀ b, DenC (memW W) b 0 (glP (.iface u v) b) := by
  rw [MakeChecks.laidMetH_plain _ _ _ (by kernel_rfl)] at h
  have h' : laidMet Tryd.prog [("math/bits.deBruijn32tab", Rows.laid_math_bits_deBruijn32tab), ("math/bits.deBruijn64tab", Rows.laid_math_bits_deBruijn64tab), ("internal/strconv.uint64pow10", Rows.laid_internal_strconv_uint64pow10), ("strconv.ErrRange", Rows.laid_strconv_ErrRange), ("strconv.ErrSyntax", Rows.laid_strconv_ErrSyntax), ("provekernel/level.words", Rows.laid_provekernel_level_words), ("provekernel/term.words", Rows.laid_provekernel_term_words)] W := h
  obtain ⟨ps, hL, _, _⟩ := h'
  obtain ⟨_, _, _, _, _, _, _, _, _, _, hL, _⟩ := hL
  obtain ⟨_, _, _, _, _, _, _, _, _, _, hL, _⟩ := hL
  obtain ⟨g3, t3, cs3, fu3, p3, q3, hg3, ht3, hv3, hd3, hL, _⟩ := hL
  obtain ⟨_, _, _, _, _, _, _, _, _, _, hL, _⟩ := hL
  obtain ⟨g6, t6, cs6, fu6, p6, q6, hg6, ht6, hv6, hd6, hL, _⟩ := hL
  obtain ⟨g5, t5, cs5, fu5, p5, q5, hg5, ht5, hv5, hd5, hL, _⟩ := hL
  obtain ⟨g7, t7, cs7, fu7, p7, q7, hg7, ht7, hv7, hd7, _, _⟩ := hL
  have n3 : Tryd.prog.globalNamed "internal/strconv.uint64pow10" = some 5 := by kernel_rfl
  have n5 : Tryd.prog.globalNamed "provekernel/level.words" = some 2 := by kernel_rfl
  have n6 : Tryd.prog.globalNamed "strconv.ErrSyntax" = some 3 := by kernel_rfl
  have n7 : Tryd.prog.globalNamed "provekernel/term.words" = some 1 := by kernel_rfl
  obtain rfl := Option.some.inj (n3.symm.trans hg3)
  obtain rfl := Option.some.inj (n5.symm.trans hg5)
  obtain rfl := Option.some.inj (n6.symm.trans hg6)
  obtain rfl := Option.some.inj (n7.symm.trans hg7)
  obtain rfl := Option.some.inj ((show (Tryd.prog.globals[5]?).map (·.type) = some 140 by kernel_rfl).symm.trans ht3)
  obtain rfl := Option.some.inj ((show (Tryd.prog.globals[2]?).map (·.type) = some 117 by kernel_rfl).symm.trans ht5)
  obtain rfl := Option.some.inj ((show (Tryd.prog.globals[3]?).map (·.type) = some 40 by kernel_rfl).symm.trans ht6)
  obtain rfl := Option.some.inj ((show (Tryd.prog.globals[1]?).map (·.type) = some 95 by kernel_rfl).symm.trans ht7)
  obtain ⟨eu, ev, hes⟩ := es_of n6 hv6 hd6
  exact ⟨eu, ev, globP_of (twords_of n7 hv7 hd7) (lwords_of n5 hv5 hd5) hes (p10_of n3 hv3 hd3)⟩

theorem door_met (os : Os) (args : Array Value) : laidMetH Tryd.prog Rows.fileReadsRow.laid ((World.doorLaid Tryd.prog 400 os).forCall (fun _ _ => 0) ⟨#[], args, []⟩).memory :=
  laidMetH_of_parts3 (fuel := 8) (laidMet_of_run' 8 (by kernel_rfl) (by kernel_rfl)) (by kernel_rfl) (by kernel_rfl)

set_option maxRecDepth 100000 in
theorem filereads_lifted (os : Os) (started : os.Started) (H : Type) (enc : TypeId × Value → H) :
    ReturnsInHanded {} Tryd.checked os 4 .any (fun w args => (Rows.fileReadsSpec.pre enc Tryd.prog Tryd.f4 [] false w args ∧ laidMetH Tryd.prog Rows.fileReadsRow.laid w) ∧ sizedMet enc Tryd.prog Tryd.f4 (OpenSpec.ofChange Rows.fileReadsSpec) false w args)
      (Rows.fileReadsSpec.post enc Tryd.prog Tryd.f4 false true false false) := by
  refine returnsInHanded_of_change_and (C := Tryd.checked) (X := fun w _ => laidMetH Tryd.prog Rows.fileReadsRow.laid w) (fun _ _ _ hh h => h.of_heap hh) own started (by kernel_rfl) Tryd.func4
    (ChangeSpec.witness_shaped (enc := enc) (C := Tryd.checked) (os := os) (X := fun w _ => laidMetH Tryd.prog Rows.fileReadsRow.laid w) false (World.doorLaid Tryd.prog 400 os) #[.slice none 0 0] 8 rfl (World.shaped_of_RefB (by kernel_rfl) (by kernel_rfl)) (by kernel_rfl) (by kernel_rfl) (by kernel_rfl) (door_met os _)) ?_
  intro W base args ds gs before hval0 hW _ _ hL _
  have hval : ∀ (j : Nat) t v, Tryd.f4.params[j]? = some t → args[j]? = some v → Value.okWide Tryd.prog W .any base t v := hval0
  have hW' := hW
  obtain ⟨p, q, hA0, hV, rfl, hfz, hnd⟩ := hW
  have hA : DataW.TrodAll enc Tryd.prog W 0 (fun _ => true) true Tryd.f4.params.toList args.toList ds p := hA0
  rw [Tryd.params4] at hA hval
  obtain ⟨v0, d0, rfl, rfl, h0⟩ := trodAll_one hA
  obtain ⟨rfl, rfl⟩ := trodVars_none hV
  obtain ⟨a, len, cap, rfl⟩ := okWide_slice us22 (hval 0 22 v0 rfl rfl)
  have h0' := h0
  obtain ⟨fuel, hf⟩ := h0
  obtain ⟨l, hl, hk⟩ := script_of_trod hf rfl
  obtain ⟨eu, ev, hglob⟩ := glob_of_laid hL
  have hcalls := calls_of_triD (w := W) (fileReads_spec (g := _) rfl rfl (.v (.iface eu ev)) rfl (fun m v h => .inr ⟨eu, ev, h⟩) l) hglob (vs := [.slice a len cap]) ⟨_, [], rfl, hl, rfl⟩
  simp only [List.append_nil] at hW'
  refine hcalls.mono fun e W' ⟨v, d, m, he, hv, hd, hb⟩ => ?_
  subst hd
  simp only [D.Den] at hv
  subst hv
  have hlt : ∀ x ∈ p, x.block < W.heap.size := DataW.TrodAll.lt hA
  refine ⟨_, he, [d0], [], p, [], p, [], hW', trodAll_mk1 (shut_bool ub4 _), ?_, rfl, hb.frame _, fun h => by cases h⟩
  exact trodAll_mk1 (hb.trod (by kernel_rfl) (by kernel_rfl) (of_decide_eq_true (by kernel_rfl)) h0' hlt)

theorem filereads_holds : Rows.FileReadsSaid :=
  OpenClaim.holds_of_wide 4 Tryd.f4 rfl rfl rfl rfl rfl rfl rfl ⟨rfl, rfl, rfl, rfl, rfl⟩ rfl rfl rfl rfl rfl (by kernel_rfl) Tryd.func4 (by kernel_rfl)
    (of_decide_eq_true (by kernel_rfl)) (by unfold Func.isWrapper; first | (rw [if_pos (by decide +kernel)]; kernel_rfl) | (rw [if_neg (by decide +kernel)]; exact ⟨rfl, rfl⟩))
    (fun os started H enc _ => filereads_lifted os started H enc)
theorem filereads_card_holds : Rows.FileReadsCardSaid :=
  Claim7.holds_tied_plain_at .later [] [.data, .data, .data, .sentinel, .sentinel, .data, .widerDeep] true (true, "8fd9a4448800c6a7f1fa3b7de6809a961663b75275411ea702d8b03e97acd5c5") true
    filereads_holds (fun _ h => by cases h) (by kernel_rfl) (fun _ h => by cases h) fileReads_row_tie rfl ⟨rfl, rfl⟩ (by kernel_rfl) rfl
    (fun f fn hf hfn => by
      obtain rfl : f = 4 := Option.some.inj ((show Tryd.prog.funcNamed "provekernel/provekernellaw.FileReads" = some 4 by kernel_rfl).symm.trans hf) |>.symm
      obtain rfl : fn = Tryd.f4 := (Option.some.inj (Tryd.func4.symm.trans hfn)).symm
      exact ⟨by kernel_rfl, fun j t ht => by
        rw [Tryd.params4] at ht
        have hm : t ∈ [22] := by simpa using Array.mem_of_getElem? ht
        have hall : ([22].all fun u => !Tryd.prog.wantsStandIn u) = true := by kernel_rfl
        exact (show Tryd.prog.wantsStandIn t = false by simpa using List.all_eq_true.1 hall t hm)⟩)
    (by kernel_rfl)
#print axioms filereads_card_holds
end Go.Proofs.YtneaancanfpdhaaDoor
