/-
  What is proved here: contracts of the program's scanner: Fail, Take, Name, End, NewScanner.
-/
import Derived.Test.YtneaancanfpdhaaGreatDoorYS2
set_option linter.unusedSimpArgs false
set_option linter.unusedVariables false
namespace Go.Proofs.YtneaancanfpdhaaGreatDoor
open Go Go.Vd Go.RowKit
attribute [local irreducible] Runs OpsR OpR FloatR AnyR AnyO
variable {gl : Nat → List D}

/-- a fault, as an error or as what is thrown -/
def fltD (code at' : Int) : D := .ifc 96 (.cp [.v (.int .i64 code), .v (.int .i64 at')])

theorem sfail_spec (s : ByteArray) (b : Nat) (tok : ByteArray) (pos : Nat) :
    Tri Tryz.prog gl 104 [scO s b tok pos] [.blk 0 0] fun out ob' => out = .pan (.d (fltD 1 pos)) ∧ ob' = [scO s b tok pos] := by
  unfold scO fltD
  refine triS_of_runs Tryz.func104 rfl Tryz.ntmps104 (rs := []) rfl rfl rfl 1 rfl ?_
  refine runs_region ?_; refine o1 (mv ?_); refine o1 (ncb ?_); refine o1 (fdb ti105 ?_); refine o1 (ldb ti3 ?_); refine o1 (bld ti33 ?_)
  refine oc (T := fun _ => False) (bx ti33 ?_ (hl := by simp only [List.length_cons, List.length_nil, Nat.reduceAdd]; rfl)); refine ops_freeze 1 rfl rfl rfl rfl rfl rfl ?_; refine o1 (f_iface_d ?_); refine oc (T := fun _ => False) (o_panic ?_)
  refine leave_d ([0]) ([scO s b tok pos]) rfl rfl rfl (by repeat (first | exact boz | refine boc ?_)) ?_; exact ⟨rfl, rfl⟩

/-- a scanner that stands at the token behind p -/
def scA (s : ByteArray) (p : Nat) : Ob := scO s (stepAt s p) (stepTok s p) (tokR s p).2.1
theorem stepAt_le {s : ByteArray} {p : Nat} (hp : p ≤ s.size) : p ≤ stepAt s p ∧ stepAt s p ≤ s.size := by
  have := tokR_at (s := s) hp
  unfold stepAt
  split <;> omega

theorem take_ok (s : ByteArray) (hs : s.size ≤ 1099511627776) (b : Nat) (hb : b ≤ s.size) (w : ByteArray) (pos : Nat) :
    Tri Tryz.prog gl 105 [scO s b w pos] [.blk 0 0, .d (.v (.string w))] fun out ob' => out = .ret (.d (.tup [])) ∧ ob' = [scA s b] := by
  unfold scO
  refine triS_of_runs Tryz.func105 rfl Tryz.ntmps105 (rs := []) rfl rfl rfl 1 rfl ?_
  refine runs_seq ?_; refine sr ?_; refine o1 (mv ?_); refine o1 (ncb ?_); refine o1 (fdb ti105 ?_); refine o1 (ldb ti9 ?_); refine o1 (mv ?_); refine o1 (sne ?_); refine nx ?_; refine cd (fun h0 => ?_) (fun h0 => ?_)
  · simp only [nrm, Int.reduceEq, Int.reduceNe, Int.reduceLT, Int.reduceLE] at h0
  (try simp only [nrm, Int.reduceEq, Int.reduceNe, Int.reduceLT, Int.reduceLE] at h0); refine runs_skip ?_; refine seq_normal ?_; refine kp [0] ?_; refine runs_region ?_; refine o1 (mv ?_)
  refine oc (ck ca101 rfl rfl (step_spec s hs b hb w pos) [0] rfl (boc .nil) (fir .nil) ?_); refine ops_nil ?_; refine fin_normal ?_; refine fin_od (l := []) rfl rfl ([0]) ([scA s b]) rfl rfl rfl ?_ ?_
  · repeat (first | exact boz | refine boc ?_)
  · exact ⟨rfl, rfl⟩

theorem take_bad (s : ByteArray) (b : Nat) (tok w : ByteArray) (pos : Nat) (hw : ¬ tok = w) :
    Tri Tryz.prog gl 105 [scO s b tok pos] [.blk 0 0, .d (.v (.string w))] fun out ob' => out = .pan (.d (fltD 1 pos)) ∧ ob' = [scO s b tok pos] := by
  unfold scO
  refine triS_of_runs Tryz.func105 rfl Tryz.ntmps105 (rs := []) rfl rfl rfl 1 rfl ?_
  refine runs_seq ?_; refine sr ?_; refine o1 (mv ?_); refine o1 (ncb ?_); refine o1 (fdb ti105 ?_); refine o1 (ldb ti9 ?_); refine o1 (mv ?_); refine o1 (sne ?_); refine nx ?_; refine cdf (fun h0 => ?_) (fun h0 => ?_)
  · (try simp only [nrm, Int.reduceEq, Int.reduceNe, Int.reduceLT, Int.reduceLE] at h0); contradiction
  (try simp only [nrm, Int.reduceEq, Int.reduceNe, Int.reduceLT, Int.reduceLE] at h0); refine kp [0] ?_; refine runs_region ?_; refine o1 (mv ?_)
  refine oc (op_callo ca104 rfl rfl rfl rfl (sfail_spec s b tok pos) [0] (boc .nil) rfl rfl rfl rfl (fir .nil) (fun s ob' hq => ?_) (fun s ob' hq => ?_))
  · cases hq.1
  obtain ⟨hq1, rfl⟩ := hq; cases hq1; refine ⟨_, _, _, _, _, rfl, rfl, rfl, rfl, rfl, ?_⟩; refine leave_d ([0]) ([scO s b tok pos]) rfl rfl rfl (by repeat (first | exact boz | refine boc ?_)) ?_; exact ⟨rfl, rfl⟩

theorem name_ok (s : ByteArray) (hs : s.size ≤ 1099511627776) (b : Nat) (hb : b ≤ s.size) (w : ByteArray) (pos : Nat) (hw : isNameB w = true) :
    Tri Tryz.prog gl 107 [scO s b w pos] [.blk 0 0] fun out ob' => out = .ret (.d (.v (.string w))) ∧ ob' = [scA s b] := by
  have hb0 := byteAt_bound w 0
  simp only [isNameB, Bool.and_eq_true, decide_eq_true_eq] at hw
  have hw2 := size_pos_of_ne hw.1
  have hem : ¬ w = ⟨#[]⟩ := hw.1
  unfold scO
  refine triS_of_runs Tryz.func107 rfl Tryz.ntmps107 (rs := [.tmp 2]) rfl rfl rfl 1 rfl ?_
  refine sr ?_; refine o1 (asg ?_); refine nx ?_; refine sr ?_; refine o1 (mv ?_); refine o1 (ncb ?_); refine o1 (fdb ti105 ?_); refine o1 (ldb ti9 ?_); refine o1 (asg ?_); refine nx ?_; refine runs_seq ?_; refine kp [3, 0] ?_; refine sr ?_
  refine o1 (mv ?_); refine o1 (seq1 ?_); refine o1 (mv ?_)
  apply ops_or (yt := 14) (d := 10) 4 rfl rfl rfl (.none rfl) rfl rfl
  case h1 =>
    intro hb4 hK
    have hc := hb4; (try simp only [nrm, Int.reduceEq, Int.reduceNe, Int.reduceLT, Int.reduceLE] at hc)
    refine gye ?_ (hbw := by exact hb4); refine o1 (mv ?_); refine gye ?_ (hbw := by exact hb4); refine o1 (byt ut9 ?_); refine gye ?_ (hbw := by exact hb4); refine oc (cv ca120 rfl rfl (letter_spec (byteAt w 0) hb0.1 hb0.2) (fir .nil) ?_)
    refine gye ?_ (hbw := by exact hb4); refine o1 (f_not ?_); exact hK [_, _, _, _] rfl rfl
  case h2 =>
    intro hb4 hK; refine gno ?_ (hbw := by exact hb4); refine gno ?_ (hbw := by exact hb4); refine gno ?_ (hbw := by exact hb4); refine gno ?_ (hbw := by exact hb4); exact hK [_, _, _, _] rfl
  refine nx ?_; refine cd (fun h2 => ?_) (fun h2 => ?_)
  · (try simp only [nrm, Int.reduceEq, Int.reduceNe, Int.reduceLT, Int.reduceLE] at h2); exfalso; rcases h2 with h | h; exact hem h; rw [hw.2] at h; cases h
  (try simp only [nrm, Int.reduceEq, Int.reduceNe, Int.reduceLT, Int.reduceLE] at h2); refine runs_skip ?_; refine seq_normal ?_; refine kp [3, 0] ?_; refine sr ?_; refine o1 (mv ?_)
  refine oc (ck ca101 rfl rfl (step_spec s hs b hb w pos) [0] rfl (boc .nil) (fir .nil) ?_); refine nx ?_; refine sr ?_; refine o1 (mv ?_); refine o1 (asg ?_); refine nx ?_; refine runs_ret ?_; refine fin_ret ?_
  refine fin_od ⟨_, _, rfl, rfl, rfl⟩ rfl ([0]) ([scA s b]) rfl rfl rfl ?_ ?_
  · repeat (first | exact boz | refine boc ?_)
  · exact ⟨rfl, rfl⟩

theorem name_bad (s : ByteArray) (b : Nat) (w : ByteArray) (pos : Nat) (hw : isNameB w = false) :
    Tri Tryz.prog gl 107 [scO s b w pos] [.blk 0 0] fun out ob' => out = .pan (.d (fltD 1 pos)) ∧ ob' = [scO s b w pos] := by
  have hb0 := byteAt_bound w 0
  have hw2 : ¬ w = ⟨#[]⟩ → 0 < w.size := fun h => size_pos_of_ne h
  unfold scO
  refine triS_of_runs Tryz.func107 rfl Tryz.ntmps107 (rs := [.tmp 2]) rfl rfl rfl 1 rfl ?_
  refine sr ?_; refine o1 (asg ?_); refine nx ?_; refine sr ?_; refine o1 (mv ?_); refine o1 (ncb ?_); refine o1 (fdb ti105 ?_); refine o1 (ldb ti9 ?_); refine o1 (asg ?_); refine nx ?_; refine runs_seq ?_; refine kp [3, 0] ?_; refine sr ?_
  refine o1 (mv ?_); refine o1 (seq1 ?_); refine o1 (mv ?_)
  apply ops_or (yt := 14) (d := 10) 4 rfl rfl rfl (.none rfl) rfl rfl
  case h1 =>
    intro hb4 hK
    have hc := hb4; (try simp only [nrm, Int.reduceEq, Int.reduceNe, Int.reduceLT, Int.reduceLE] at hc)
    refine gye ?_ (hbw := by exact hb4); refine o1 (mv ?_)
    have hw3 := hw2 hc
    refine gye ?_ (hbw := by exact hb4); refine o1 (byt ut9 ?_); refine gye ?_ (hbw := by exact hb4); refine oc (cv ca120 rfl rfl (letter_spec (byteAt w 0) hb0.1 hb0.2) (fir .nil) ?_); refine gye ?_ (hbw := by exact hb4); refine o1 (f_not ?_)
    exact hK [_, _, _, _] rfl rfl
  case h2 =>
    intro hb4 hK; refine gno ?_ (hbw := by exact hb4); refine gno ?_ (hbw := by exact hb4); refine gno ?_ (hbw := by exact hb4); refine gno ?_ (hbw := by exact hb4); exact hK [_, _, _, _] rfl
  refine nx ?_; refine cdf (fun h2 => ?_) (fun h2 => ?_)
  · (try simp only [nrm, Int.reduceEq, Int.reduceNe, Int.reduceLT, Int.reduceLE] at h2); exfalso; have h8 : isNameB w = true := (by simp only [isNameB, Bool.and_eq_true, decide_eq_true_eq]; exact ⟨h2.1, h2.2⟩); rw [hw] at h8; cases h8
  (try simp only [nrm, Int.reduceEq, Int.reduceNe, Int.reduceLT, Int.reduceLE] at h2); refine kp [3, 0] ?_; refine runs_region ?_; refine o1 (mv ?_)
  refine oc (op_callo ca104 rfl rfl rfl rfl (sfail_spec s b w pos) [0] (boc .nil) rfl rfl rfl rfl (fir .nil) (fun s ob' hq => ?_) (fun s ob' hq => ?_))
  · cases hq.1
  obtain ⟨hq1, rfl⟩ := hq; cases hq1; refine ⟨_, _, _, _, _, rfl, rfl, rfl, rfl, rfl, ?_⟩; refine leave_d ([0]) ([scO s b w pos]) rfl rfl rfl (by repeat (first | exact boz | refine boc ?_)) ?_; exact ⟨rfl, rfl⟩

theorem end_ok (s : ByteArray) (b pos : Nat) :
    Tri Tryz.prog gl 74 [scO s b .empty pos] [.blk 0 0] fun out ob' => out = .ret (.d (.tup [])) ∧ ob' = [scO s b .empty pos] := by
  unfold scO
  refine triS_of_runs Tryz.func74 rfl Tryz.ntmps74 (rs := []) rfl rfl rfl 1 rfl ?_
  refine sr ?_; refine o1 (mv ?_); refine o1 (ncb ?_); refine o1 (fdb ti105 ?_); refine o1 (ldb ti9 ?_); refine o1 (sne ?_); refine nx ?_; refine cd (fun h0 => ?_) (fun h0 => ?_)
  · (try simp only [nrm, Int.reduceEq, Int.reduceNe, Int.reduceLT, Int.reduceLE] at h0); contradiction
  (try simp only [nrm, Int.reduceEq, Int.reduceNe, Int.reduceLT, Int.reduceLE] at h0); refine runs_skip ?_; refine fin_normal ?_; refine fin_od (l := []) rfl rfl ([0]) ([scO s b .empty pos]) rfl rfl rfl ?_ ?_
  · repeat (first | exact boz | refine boc ?_)
  · exact ⟨rfl, rfl⟩
theorem end_bad (s : ByteArray) (b : Nat) (tok : ByteArray) (pos : Nat) (hw : ¬ tok = .empty) :
    Tri Tryz.prog gl 74 [scO s b tok pos] [.blk 0 0] fun out ob' => out = .pan (.d (fltD 1 pos)) ∧ ob' = [scO s b tok pos] := by
  unfold scO
  refine triS_of_runs Tryz.func74 rfl Tryz.ntmps74 (rs := []) rfl rfl rfl 1 rfl ?_
  refine sr ?_; refine o1 (mv ?_); refine o1 (ncb ?_); refine o1 (fdb ti105 ?_); refine o1 (ldb ti9 ?_); refine o1 (sne ?_); refine nx ?_; refine cdf (fun h0 => ?_) (fun h0 => ?_)
  · (try simp only [nrm, Int.reduceEq, Int.reduceNe, Int.reduceLT, Int.reduceLE] at h0); contradiction
  (try simp only [nrm, Int.reduceEq, Int.reduceNe, Int.reduceLT, Int.reduceLE] at h0); refine kp [0] ?_; refine runs_region ?_; refine o1 (mv ?_)
  refine oc (op_callo ca104 rfl rfl rfl rfl (sfail_spec s b tok pos) [0] (boc .nil) rfl rfl rfl rfl (fir .nil) (fun s ob' hq => ?_) (fun s ob' hq => ?_))
  · cases hq.1
  obtain ⟨hq1, rfl⟩ := hq; cases hq1; refine ⟨_, _, _, _, _, rfl, rfl, rfl, rfl, rfl, ?_⟩; refine leave_d ([0]) ([scO s b tok pos]) rfl rfl rfl (by repeat (first | exact boz | refine boc ?_)) ?_; exact ⟨rfl, rfl⟩
theorem new_spec (s : ByteArray) (hs : s.size ≤ 1099511627776) :
    Tri Tryz.prog gl 72 [] [.d (.v (.string s))] fun out ob' => out = .ret (.blk 0 0) ∧ ob' = [scA s 0] := by
  refine triS_of_runs Tryz.func72 rfl Tryz.ntmps72 (rs := [.tmp 2]) rfl rfl rfl 0 rfl ?_
  refine sr ?_; refine o1 (asg ?_); refine nx ?_; refine sr ?_; refine o1 (mv ?_); refine o1 (bld ti105 ?_); refine oc (T := fun _ => False) (bx ti105 ?_ (hl := by simp only [List.length_cons, List.length_nil, Nat.reduceAdd]; rfl))
  refine o1 (asg ?_); refine nx ?_; refine kp [3] ?_; refine sr ?_; refine o1 (mv ?_); refine oc (ck ca101 rfl rfl (step_spec s hs 0 (Nat.zero_le _) .empty 0) [0] rfl (boc .nil) (fir .nil) ?_); refine nx ?_; refine sr ?_; refine o1 (mv ?_)
  refine o1 (asg ?_); refine nx ?_; refine runs_ret ?_; refine fin_ret ?_; refine fin_o ⟨_, _, rfl, rfl, rfl⟩ [0] (.blk 0 0) ([scA s 0]) rfl rfl rfl ?_ rfl ?_ ?_
  · repeat (first | exact boz | refine boc ?_)
  · exact .refl _
  · exact ⟨rfl, rfl⟩
end Go.Proofs.YtneaancanfpdhaaGreatDoor
