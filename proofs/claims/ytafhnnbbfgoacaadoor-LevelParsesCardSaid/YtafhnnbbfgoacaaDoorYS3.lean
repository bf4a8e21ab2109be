/-
  What is proved here: contracts of the program's scanner: Fail, Take, Name, End, NewScanner.
-/
import Derived.Test.YtafhnnbbfgoacaaDoorYS2
set_option linter.unusedSimpArgs false
set_option linter.unusedVariables false
namespace Go.Proofs.YtafhnnbbfgoacaaDoor
open Go Go.Vd Go.RowKit
attribute [local irreducible] Runs OpsR OpR FloatR AnyR AnyO
variable {gl : Nat → List D}

/-- a fault, as an error or as what is thrown -/
def fltD (code at' : Int) : D := .ifc 66 (.cp [.v (.int .i64 code), .v (.int .i64 at')])

theorem sfail_spec (s : ByteArray) (b : Nat) (tok : ByteArray) (pos : Nat) :
    Tri Tryd.prog gl 51 [scO s b tok pos] [.blk 0 0] fun out ob' => out = .pan (.d (fltD 1 pos)) ∧ ob' = [scO s b tok pos] := by
  unfold scO fltD
  refine triS_of_runs Tryd.func51 rfl Tryd.ntmps51 (rs := []) rfl rfl rfl 1 rfl ?_
  refine runs_region ?_
  refine ops_fl rfl rfl rfl (fl_move rfl rfl ?_)
  first
  | refine ops_fl rfl rfl rfl (fl_nil_blk rfl rfl ?_)
  | refine ops_fl rfl rfl rfl (fl_nil_cp rfl rfl ?_)
  first
  | refine ops_fl rfl rfl rfl (fl_field_blk ti90 rfl rfl rfl rfl ?_)
  | refine ops_fl rfl rfl rfl (fl_field_cp ti90 rfl rfl rfl rfl rfl ?_)
  first
  | refine ops_fl rfl rfl rfl (fl_load_blk ti3 rfl rfl rfl rfl rfl rfl rfl ?_)
  | refine ops_fl rfl rfl rfl (fl_load_cp ti3 rfl rfl rfl rfl rfl rfl ?_)
  refine ops_fl rfl rfl rfl (fl_build ti33 rfl rfl rfl rfl rfl rfl rfl ?_)
  refine ops_cons (T := fun _ => False) rfl (op_box ti33 rfl rfl rfl rfl rfl (by simp only [List.length_cons, List.length_nil, Nat.reduceAdd]; rfl) rfl ?_)
  refine ops_freeze 1 rfl rfl rfl rfl rfl rfl ?_
  first
  | refine ops_fl rfl rfl rfl (fl_iface_d (by kernel_rfl) rfl rfl ?_)
  | refine ops_fl rfl rfl rfl (fl_iface (by kernel_rfl) rfl rfl ?_)
  refine ops_cons (T := fun _ => False) rfl (op_panic rfl rfl ?_)
  refine leave_d ([0]) ([scO s b tok pos]) rfl rfl rfl (by repeat (first | exact .nil | refine .cons rfl (.cells rfl (FitL.rfl _)) ?_ | refine .cons rfl .dead ?_ | refine .cons rfl .row ?_ | refine .cons rfl .nnrow ?_)) ?_
  exact ⟨rfl, rfl⟩

/-- a scanner that stands at the token behind p -/
def scA (s : ByteArray) (p : Nat) : Ob := scO s (stepAt s p) (stepTok s p) (tokR s p).2.1
theorem stepAt_le {s : ByteArray} {p : Nat} (hp : p ≤ s.size) : p ≤ stepAt s p ∧ stepAt s p ≤ s.size := by
  have := tokR_at (s := s) hp
  unfold stepAt
  split <;> omega

theorem take_ok (s : ByteArray) (hs : s.size ≤ 1099511627776) (b : Nat) (hb : b ≤ s.size) (w : ByteArray) (pos : Nat) :
    Tri Tryd.prog gl 52 [scO s b w pos] [.blk 0 0, .d (.v (.string w))] fun out ob' => out = .ret (.d (.tup [])) ∧ ob' = [scA s b] := by
  unfold scO
  refine triS_of_runs Tryd.func52 rfl Tryd.ntmps52 (rs := []) rfl rfl rfl 1 rfl ?_
  refine runs_seq ?_
  refine runs_seq ?_
  refine runs_region ?_
  refine ops_fl rfl rfl rfl (fl_move rfl rfl ?_)
  first
  | refine ops_fl rfl rfl rfl (fl_nil_blk rfl rfl ?_)
  | refine ops_fl rfl rfl rfl (fl_nil_cp rfl rfl ?_)
  first
  | refine ops_fl rfl rfl rfl (fl_field_blk ti90 rfl rfl rfl rfl ?_)
  | refine ops_fl rfl rfl rfl (fl_field_cp ti90 rfl rfl rfl rfl rfl ?_)
  first
  | refine ops_fl rfl rfl rfl (fl_load_blk ti9 rfl rfl rfl rfl rfl rfl rfl ?_)
  | refine ops_fl rfl rfl rfl (fl_load_cp ti9 rfl rfl rfl rfl rfl rfl ?_)
  refine ops_fl rfl rfl rfl (fl_move rfl rfl ?_)
  refine ops_fl rfl rfl rfl (fl_sneq rfl rfl rfl ?_)
  refine ops_nil ?_
  refine seq_normal ?_
  refine runs_cond rfl (fun h0 => ?_) (fun h0 => ?_)
  · try simp only [decide_eq_true_eq, decide_eq_false_iff_not, Bool.not_eq_true', Bool.not_eq_false', Bool.not_true, Bool.not_false, Int.not_lt, Int.not_le, Bool.and_eq_true, Bool.or_eq_true, Bool.and_eq_false_iff, Bool.or_eq_false_iff, Bool.false_eq_true, Bool.true_eq_false, not_true_eq_false, not_false_eq_true, decide_true, decide_false, true_and, and_true, false_and, and_false, true_or, or_true, false_or, or_false, Bool.true_and, Bool.false_and, Bool.and_true, Bool.and_false, Bool.true_or, Bool.false_or, Bool.or_true, Bool.or_false, Int.reduceEq, Int.reduceNe, Int.reduceLT, Int.reduceLE, Int.toNat_natCast, toNat_add1] at h0
    all_goals (first | contradiction | (exfalso; omega) | (exfalso; simp_all))
  · try simp only [decide_eq_true_eq, decide_eq_false_iff_not, Bool.not_eq_true', Bool.not_eq_false', Bool.not_true, Bool.not_false, Int.not_lt, Int.not_le, Bool.and_eq_true, Bool.or_eq_true, Bool.and_eq_false_iff, Bool.or_eq_false_iff, Bool.false_eq_true, Bool.true_eq_false, not_true_eq_false, not_false_eq_true, decide_true, decide_false, true_and, and_true, false_and, and_false, true_or, or_true, false_or, or_false, Bool.true_and, Bool.false_and, Bool.and_true, Bool.and_false, Bool.true_or, Bool.false_or, Bool.or_true, Bool.or_false, Int.reduceEq, Int.reduceNe, Int.reduceLT, Int.reduceLE, Int.toNat_natCast, toNat_add1] at h0
    all_goals try (first | contradiction | (exfalso; omega))
    all_goals (
      refine runs_skip ?_
      refine seq_normal ?_
      refine runs_keep [0] rfl ?_
      refine runs_region ?_
      refine ops_fl rfl rfl rfl (fl_move rfl rfl ?_)
      refine ops_cons rfl (op_callo ca50 rfl rfl rfl rfl (step_spec s hs b hb w pos) [0] (.cons rfl (by first | exact .cells rfl (FitL.rfl _) | exact .row | exact .nrow | exact .mapI | exact .nnrow | (refine .cells rfl ?_; repeat (first | exact .nil | refine .cons (by first | exact .refl _ | exact .toD rfl | exact .nil rfl | exact .nilD) ?_))) .nil) rfl rfl rfl rfl (.cons (by first | exact .refl _ | exact .toD rfl | exact .nil rfl | exact .nilD | exact .dle rfl (by repeat' (first | exact DLe.refl _ | exact DLe.nil | exact DLeL.nil | exact DLeLL.nil | apply DLe.agg | apply DLe.tup | apply DLe.sl | apply DLe.cp | apply DLeL.cons | apply DLeLL.cons))) .nil) (fun s ob' hq => ?_) (fun s ob' hq => ?_))
      rotate_left
      · first | exact hq.elim | cases hq.1
      obtain ⟨hq1, rfl⟩ := hq
      cases hq1
      refine ⟨_, _, _, _, _, rfl, rfl, rfl, rfl, rfl, ?_⟩
      refine ops_nil ?_
      refine fin_normal ?_
      refine fin_od (l := []) rfl rfl ([0]) ([scA s b]) rfl rfl rfl ?_ ?_
      · repeat (first | exact .nil | refine .cons rfl (.cells rfl (FitL.rfl _)) ?_ | refine .cons rfl .row ?_ | refine .cons rfl .mapI ?_ | refine .cons rfl .nnrow ?_ | refine .cons rfl .nrow ?_ | refine .cons rfl .dead ?_ | refine .cons rfl (.cells rfl ?_) ?_ | refine .cons (by first | exact .refl _ | exact .toD rfl | exact .nilD) ?_)
      · exact ⟨rfl, rfl⟩
    )

theorem take_bad (s : ByteArray) (b : Nat) (tok w : ByteArray) (pos : Nat) (hw : ¬ tok = w) :
    Tri Tryd.prog gl 52 [scO s b tok pos] [.blk 0 0, .d (.v (.string w))] fun out ob' => out = .pan (.d (fltD 1 pos)) ∧ ob' = [scO s b tok pos] := by
  unfold scO
  refine triS_of_runs Tryd.func52 rfl Tryd.ntmps52 (rs := []) rfl rfl rfl 1 rfl ?_
  refine runs_seq ?_
  refine runs_seq ?_
  refine runs_region ?_
  refine ops_fl rfl rfl rfl (fl_move rfl rfl ?_)
  first
  | refine ops_fl rfl rfl rfl (fl_nil_blk rfl rfl ?_)
  | refine ops_fl rfl rfl rfl (fl_nil_cp rfl rfl ?_)
  first
  | refine ops_fl rfl rfl rfl (fl_field_blk ti90 rfl rfl rfl rfl ?_)
  | refine ops_fl rfl rfl rfl (fl_field_cp ti90 rfl rfl rfl rfl rfl ?_)
  first
  | refine ops_fl rfl rfl rfl (fl_load_blk ti9 rfl rfl rfl rfl rfl rfl rfl ?_)
  | refine ops_fl rfl rfl rfl (fl_load_cp ti9 rfl rfl rfl rfl rfl rfl ?_)
  refine ops_fl rfl rfl rfl (fl_move rfl rfl ?_)
  refine ops_fl rfl rfl rfl (fl_sneq rfl rfl rfl ?_)
  refine ops_nil ?_
  refine seq_normal ?_
  refine runs_cond rfl (fun h0 => ?_) (fun h0 => ?_)
  · try simp only [decide_eq_true_eq, decide_eq_false_iff_not, Bool.not_eq_true', Bool.not_eq_false', Bool.not_true, Bool.not_false, Int.not_lt, Int.not_le, Bool.and_eq_true, Bool.or_eq_true, Bool.and_eq_false_iff, Bool.or_eq_false_iff, Bool.false_eq_true, Bool.true_eq_false, not_true_eq_false, not_false_eq_true, decide_true, decide_false, true_and, and_true, false_and, and_false, true_or, or_true, false_or, or_false, Bool.true_and, Bool.false_and, Bool.and_true, Bool.and_false, Bool.true_or, Bool.false_or, Bool.or_true, Bool.or_false, Int.reduceEq, Int.reduceNe, Int.reduceLT, Int.reduceLE, Int.toNat_natCast, toNat_add1] at h0
    all_goals try (first | contradiction | (exfalso; omega))
    all_goals (
      refine runs_keep [0] rfl ?_
      refine runs_region ?_
      refine ops_fl rfl rfl rfl (fl_move rfl rfl ?_)
      refine ops_cons rfl (op_callo ca51 rfl rfl rfl rfl (sfail_spec s b tok pos) [0] (.cons rfl (by first | exact .cells rfl (FitL.rfl _) | exact .row | exact .nrow | exact .mapI | exact .nnrow | (refine .cells rfl ?_; repeat (first | exact .nil | refine .cons (by first | exact .refl _ | exact .toD rfl | exact .nil rfl | exact .nilD) ?_))) .nil) rfl rfl rfl rfl (.cons (by first | exact .refl _ | exact .toD rfl | exact .nil rfl | exact .nilD | exact .dle rfl (by repeat' (first | exact DLe.refl _ | exact DLe.nil | exact DLeL.nil | exact DLeLL.nil | apply DLe.agg | apply DLe.tup | apply DLe.sl | apply DLe.cp | apply DLeL.cons | apply DLeLL.cons))) .nil) (fun s ob' hq => ?_) (fun s ob' hq => ?_))
      · cases hq.1
      obtain ⟨hq1, rfl⟩ := hq
      cases hq1
      refine ⟨_, _, _, _, _, rfl, rfl, rfl, rfl, rfl, ?_⟩
      refine leave_d ([0]) ([scO s b tok pos]) rfl rfl rfl (by repeat (first | exact .nil | refine .cons rfl (.cells rfl (FitL.rfl _)) ?_ | refine .cons rfl .dead ?_ | refine .cons rfl .row ?_ | refine .cons rfl .nnrow ?_)) ?_
      exact ⟨rfl, rfl⟩
    )
  · try simp only [decide_eq_true_eq, decide_eq_false_iff_not, Bool.not_eq_true', Bool.not_eq_false', Bool.not_true, Bool.not_false, Int.not_lt, Int.not_le, Bool.and_eq_true, Bool.or_eq_true, Bool.and_eq_false_iff, Bool.or_eq_false_iff, Bool.false_eq_true, Bool.true_eq_false, not_true_eq_false, not_false_eq_true, decide_true, decide_false, true_and, and_true, false_and, and_false, true_or, or_true, false_or, or_false, Bool.true_and, Bool.false_and, Bool.and_true, Bool.and_false, Bool.true_or, Bool.false_or, Bool.or_true, Bool.or_false, Int.reduceEq, Int.reduceNe, Int.reduceLT, Int.reduceLE, Int.toNat_natCast, toNat_add1] at h0
    all_goals (first | contradiction | (exfalso; omega) | (exfalso; simp_all))

theorem name_ok (s : ByteArray) (hs : s.size ≤ 1099511627776) (b : Nat) (hb : b ≤ s.size) (w : ByteArray) (pos : Nat) (hw : isNameB w = true) :
    Tri Tryd.prog gl 53 [scO s b w pos] [.blk 0 0] fun out ob' => out = .ret (.d (.v (.string w))) ∧ ob' = [scA s b] := by
  have hb0 := byteAt_bound w 0
  simp only [isNameB, Bool.and_eq_true, decide_eq_true_eq] at hw
  have hw2 := size_pos_of_ne hw.1
  have hem : ¬ w = ⟨#[]⟩ := hw.1
  unfold scO
  refine triS_of_runs Tryd.func53 rfl Tryd.ntmps53 (rs := [.tmp 2]) rfl rfl rfl 1 rfl ?_
  refine runs_seq ?_
  refine runs_region ?_
  refine ops_fl rfl rfl rfl (fl_assign rfl rfl ?_)
  refine ops_nil ?_
  refine seq_normal ?_
  refine runs_seq ?_
  refine runs_region ?_
  refine ops_fl rfl rfl rfl (fl_move rfl rfl ?_)
  first
  | refine ops_fl rfl rfl rfl (fl_nil_blk rfl rfl ?_)
  | refine ops_fl rfl rfl rfl (fl_nil_cp rfl rfl ?_)
  first
  | refine ops_fl rfl rfl rfl (fl_field_blk ti90 rfl rfl rfl rfl ?_)
  | refine ops_fl rfl rfl rfl (fl_field_cp ti90 rfl rfl rfl rfl rfl ?_)
  first
  | refine ops_fl rfl rfl rfl (fl_load_blk ti9 rfl rfl rfl rfl rfl rfl rfl ?_)
  | refine ops_fl rfl rfl rfl (fl_load_cp ti9 rfl rfl rfl rfl rfl rfl ?_)
  refine ops_fl rfl rfl rfl (fl_assign rfl rfl ?_)
  refine ops_nil ?_
  refine seq_normal ?_
  refine runs_seq ?_
  refine runs_seq ?_
  refine runs_keep [3, 0] rfl ?_
  refine runs_region ?_
  refine ops_fl rfl rfl rfl (fl_move rfl rfl ?_)
  refine ops_fl rfl rfl rfl (fl_seql rfl rfl rfl ?_)
  refine ops_fl rfl rfl rfl (fl_move rfl rfl ?_)
  apply ops_or (yt := 14) (d := 10) 4 rfl rfl rfl (.none rfl) rfl rfl
  case h1 =>
    intro hb4 hK
    have hc := hb4; try simp only [decide_eq_true_eq, decide_eq_false_iff_not, Bool.not_eq_true', Bool.not_eq_false', Bool.not_true, Bool.not_false, Int.not_lt, Int.not_le, Bool.and_eq_true, Bool.or_eq_true, Bool.and_eq_false_iff, Bool.or_eq_false_iff, Bool.false_eq_true, Bool.true_eq_false, not_true_eq_false, not_false_eq_true, decide_true, decide_false, true_and, and_true, false_and, and_false, true_or, or_true, false_or, or_false, Bool.true_and, Bool.false_and, Bool.and_true, Bool.and_false, Bool.true_or, Bool.false_or, Bool.or_true, Bool.or_false, Int.reduceEq, Int.reduceNe, Int.reduceLT, Int.reduceLE, Int.toNat_natCast, toNat_add1] at hc
    all_goals try (first | contradiction | (exfalso; omega))
    all_goals (
      refine ops_gyes rfl rfl rfl hb4 ?_
      refine ops_fl rfl rfl rfl (fl_move rfl rfl ?_)
      refine ops_gyes rfl rfl rfl hb4 ?_
      refine ops_fl rfl rfl rfl (fl_byte ut9 rfl rfl rfl (by omega) ?_)
      refine ops_gyes rfl rfl rfl hb4 ?_
      refine ops_cons (T := fun _ => False) rfl (op_call ca60 rfl rfl rfl rfl (letter_spec (byteAt w 0) hb0.1 hb0.2) (.cons (by first | exact .refl _ | exact .toD rfl | exact .nilD | exact .dle rfl (by repeat' (first | exact DLe.refl _ | exact DLe.nil | exact DLeL.nil | exact DLeLL.nil | apply DLe.agg | apply DLe.tup | apply DLe.sl | apply DLe.cp | apply DLeL.cons | apply DLeLL.cons))) .nil) (fun d hd => ?_))
      obtain rfl := hd
      refine ops_gyes rfl rfl rfl hb4 ?_
      refine ops_fl rfl rfl rfl (fl_not rfl rfl ?_)
      exact hK [_, _, _, _] rfl rfl)
  case h2 =>
    intro hb4 hK
    refine ops_gno rfl rfl rfl hb4 rfl rfl ?_
    refine ops_gno rfl rfl rfl hb4 rfl rfl ?_
    refine ops_gno rfl rfl rfl hb4 rfl rfl ?_
    refine ops_gno rfl rfl rfl hb4 rfl rfl ?_
    exact hK [_, _, _, _] rfl
  refine ops_nil ?_
  refine seq_normal ?_
  refine runs_cond rfl (fun h2 => ?_) (fun h2 => ?_)
  · try simp only [decide_eq_true_eq, decide_eq_false_iff_not, Bool.not_eq_true', Bool.not_eq_false', Bool.not_true, Bool.not_false, Int.not_lt, Int.not_le, Bool.and_eq_true, Bool.or_eq_true, Bool.and_eq_false_iff, Bool.or_eq_false_iff, Bool.false_eq_true, Bool.true_eq_false, not_true_eq_false, not_false_eq_true, decide_true, decide_false, true_and, and_true, false_and, and_false, true_or, or_true, false_or, or_false, Bool.true_and, Bool.false_and, Bool.and_true, Bool.and_false, Bool.true_or, Bool.false_or, Bool.or_true, Bool.or_false, Int.reduceEq, Int.reduceNe, Int.reduceLT, Int.reduceLE, Int.toNat_natCast, toNat_add1] at h2
    all_goals (first | contradiction | (exfalso; omega) | (exfalso; rcases h2 with h | h; exact hem h; rw [hw.2] at h; cases h))
  · try simp only [decide_eq_true_eq, decide_eq_false_iff_not, Bool.not_eq_true', Bool.not_eq_false', Bool.not_true, Bool.not_false, Int.not_lt, Int.not_le, Bool.and_eq_true, Bool.or_eq_true, Bool.and_eq_false_iff, Bool.or_eq_false_iff, Bool.false_eq_true, Bool.true_eq_false, not_true_eq_false, not_false_eq_true, decide_true, decide_false, true_and, and_true, false_and, and_false, true_or, or_true, false_or, or_false, Bool.true_and, Bool.false_and, Bool.and_true, Bool.and_false, Bool.true_or, Bool.false_or, Bool.or_true, Bool.or_false, Int.reduceEq, Int.reduceNe, Int.reduceLT, Int.reduceLE, Int.toNat_natCast, toNat_add1] at h2
    all_goals try (first | contradiction | (exfalso; omega))
    all_goals (
      refine runs_skip ?_
      refine seq_normal ?_
      refine runs_seq ?_
      refine runs_keep [3, 0] rfl ?_
      refine runs_region ?_
      refine ops_fl rfl rfl rfl (fl_move rfl rfl ?_)
      refine ops_cons rfl (op_callo ca50 rfl rfl rfl rfl (step_spec s hs b hb w pos) [0] (.cons rfl (by first | exact .cells rfl (FitL.rfl _) | exact .row | exact .nrow | exact .mapI | exact .nnrow | (refine .cells rfl ?_; repeat (first | exact .nil | refine .cons (by first | exact .refl _ | exact .toD rfl | exact .nil rfl | exact .nilD) ?_))) .nil) rfl rfl rfl rfl (.cons (by first | exact .refl _ | exact .toD rfl | exact .nil rfl | exact .nilD | exact .dle rfl (by repeat' (first | exact DLe.refl _ | exact DLe.nil | exact DLeL.nil | exact DLeLL.nil | apply DLe.agg | apply DLe.tup | apply DLe.sl | apply DLe.cp | apply DLeL.cons | apply DLeLL.cons))) .nil) (fun s ob' hq => ?_) (fun s ob' hq => ?_))
      rotate_left
      · first | exact hq.elim | cases hq.1
      obtain ⟨hq1, rfl⟩ := hq
      cases hq1
      refine ⟨_, _, _, _, _, rfl, rfl, rfl, rfl, rfl, ?_⟩
      refine ops_nil ?_
      refine seq_normal ?_
      refine runs_seq ?_
      refine runs_region ?_
      refine ops_fl rfl rfl rfl (fl_move rfl rfl ?_)
      refine ops_fl rfl rfl rfl (fl_assign rfl rfl ?_)
      refine ops_nil ?_
      refine seq_normal ?_
      refine runs_ret ?_
      refine fin_ret ?_
      refine fin_od ⟨_, _, rfl, rfl, rfl⟩ rfl ([0]) ([scA s b]) rfl rfl rfl ?_ ?_
      · repeat (first | exact .nil | refine .cons rfl (.cells rfl (FitL.rfl _)) ?_ | refine .cons rfl .row ?_ | refine .cons rfl .mapI ?_ | refine .cons rfl .nnrow ?_ | refine .cons rfl .nrow ?_ | refine .cons rfl .dead ?_ | refine .cons rfl (.cells rfl ?_) ?_ | refine .cons (by first | exact .refl _ | exact .toD rfl | exact .nilD) ?_)
      · exact ⟨rfl, rfl⟩
    )

theorem name_bad (s : ByteArray) (b : Nat) (w : ByteArray) (pos : Nat) (hw : isNameB w = false) :
    Tri Tryd.prog gl 53 [scO s b w pos] [.blk 0 0] fun out ob' => out = .pan (.d (fltD 1 pos)) ∧ ob' = [scO s b w pos] := by
  have hb0 := byteAt_bound w 0
  have hw2 : ¬ w = ⟨#[]⟩ → 0 < w.size := fun h => size_pos_of_ne h
  unfold scO
  refine triS_of_runs Tryd.func53 rfl Tryd.ntmps53 (rs := [.tmp 2]) rfl rfl rfl 1 rfl ?_
  refine runs_seq ?_
  refine runs_region ?_
  refine ops_fl rfl rfl rfl (fl_assign rfl rfl ?_)
  refine ops_nil ?_
  refine seq_normal ?_
  refine runs_seq ?_
  refine runs_region ?_
  refine ops_fl rfl rfl rfl (fl_move rfl rfl ?_)
  first
  | refine ops_fl rfl rfl rfl (fl_nil_blk rfl rfl ?_)
  | refine ops_fl rfl rfl rfl (fl_nil_cp rfl rfl ?_)
  first
  | refine ops_fl rfl rfl rfl (fl_field_blk ti90 rfl rfl rfl rfl ?_)
  | refine ops_fl rfl rfl rfl (fl_field_cp ti90 rfl rfl rfl rfl rfl ?_)
  first
  | refine ops_fl rfl rfl rfl (fl_load_blk ti9 rfl rfl rfl rfl rfl rfl rfl ?_)
  | refine ops_fl rfl rfl rfl (fl_load_cp ti9 rfl rfl rfl rfl rfl rfl ?_)
  refine ops_fl rfl rfl rfl (fl_assign rfl rfl ?_)
  refine ops_nil ?_
  refine seq_normal ?_
  refine runs_seq ?_
  refine runs_seq ?_
  refine runs_keep [3, 0] rfl ?_
  refine runs_region ?_
  refine ops_fl rfl rfl rfl (fl_move rfl rfl ?_)
  refine ops_fl rfl rfl rfl (fl_seql rfl rfl rfl ?_)
  refine ops_fl rfl rfl rfl (fl_move rfl rfl ?_)
  apply ops_or (yt := 14) (d := 10) 4 rfl rfl rfl (.none rfl) rfl rfl
  case h1 =>
    intro hb4 hK
    have hc := hb4; try simp only [decide_eq_true_eq, decide_eq_false_iff_not, Bool.not_eq_true', Bool.not_eq_false', Bool.not_true, Bool.not_false, Int.not_lt, Int.not_le, Bool.and_eq_true, Bool.or_eq_true, Bool.and_eq_false_iff, Bool.or_eq_false_iff, Bool.false_eq_true, Bool.true_eq_false, not_true_eq_false, not_false_eq_true, decide_true, decide_false, true_and, and_true, false_and, and_false, true_or, or_true, false_or, or_false, Bool.true_and, Bool.false_and, Bool.and_true, Bool.and_false, Bool.true_or, Bool.false_or, Bool.or_true, Bool.or_false, Int.reduceEq, Int.reduceNe, Int.reduceLT, Int.reduceLE, Int.toNat_natCast, toNat_add1] at hc
    all_goals try (first | contradiction | (exfalso; omega))
    all_goals (
      refine ops_gyes rfl rfl rfl hb4 ?_
      refine ops_fl rfl rfl rfl (fl_move rfl rfl ?_)
      have hw3 := hw2 hc
      refine ops_gyes rfl rfl rfl hb4 ?_
      refine ops_fl rfl rfl rfl (fl_byte ut9 rfl rfl rfl (by omega) ?_)
      refine ops_gyes rfl rfl rfl hb4 ?_
      refine ops_cons (T := fun _ => False) rfl (op_call ca60 rfl rfl rfl rfl (letter_spec (byteAt w 0) hb0.1 hb0.2) (.cons (by first | exact .refl _ | exact .toD rfl | exact .nilD | exact .dle rfl (by repeat' (first | exact DLe.refl _ | exact DLe.nil | exact DLeL.nil | exact DLeLL.nil | apply DLe.agg | apply DLe.tup | apply DLe.sl | apply DLe.cp | apply DLeL.cons | apply DLeLL.cons))) .nil) (fun d hd => ?_))
      obtain rfl := hd
      refine ops_gyes rfl rfl rfl hb4 ?_
      refine ops_fl rfl rfl rfl (fl_not rfl rfl ?_)
      exact hK [_, _, _, _] rfl rfl)
  case h2 =>
    intro hb4 hK
    refine ops_gno rfl rfl rfl hb4 rfl rfl ?_
    refine ops_gno rfl rfl rfl hb4 rfl rfl ?_
    refine ops_gno rfl rfl rfl hb4 rfl rfl ?_
    refine ops_gno rfl rfl rfl hb4 rfl rfl ?_
    exact hK [_, _, _, _] rfl
  refine ops_nil ?_
  refine seq_normal ?_
  refine runs_cond rfl (fun h2 => ?_) (fun h2 => ?_)
  · try simp only [decide_eq_true_eq, decide_eq_false_iff_not, Bool.not_eq_true', Bool.not_eq_false', Bool.not_true, Bool.not_false, Int.not_lt, Int.not_le, Bool.and_eq_true, Bool.or_eq_true, Bool.and_eq_false_iff, Bool.or_eq_false_iff, Bool.false_eq_true, Bool.true_eq_false, not_true_eq_false, not_false_eq_true, decide_true, decide_false, true_and, and_true, false_and, and_false, true_or, or_true, false_or, or_false, Bool.true_and, Bool.false_and, Bool.and_true, Bool.and_false, Bool.true_or, Bool.false_or, Bool.or_true, Bool.or_false, Int.reduceEq, Int.reduceNe, Int.reduceLT, Int.reduceLE, Int.toNat_natCast, toNat_add1] at h2
    all_goals try (first | contradiction | (exfalso; omega))
    all_goals (
      refine runs_keep [3, 0] rfl ?_
      refine runs_region ?_
      refine ops_fl rfl rfl rfl (fl_move rfl rfl ?_)
      refine ops_cons rfl (op_callo ca51 rfl rfl rfl rfl (sfail_spec s b w pos) [0] (.cons rfl (by first | exact .cells rfl (FitL.rfl _) | exact .row | exact .nrow | exact .mapI | exact .nnrow | (refine .cells rfl ?_; repeat (first | exact .nil | refine .cons (by first | exact .refl _ | exact .toD rfl | exact .nil rfl | exact .nilD) ?_))) .nil) rfl rfl rfl rfl (.cons (by first | exact .refl _ | exact .toD rfl | exact .nil rfl | exact .nilD | exact .dle rfl (by repeat' (first | exact DLe.refl _ | exact DLe.nil | exact DLeL.nil | exact DLeLL.nil | apply DLe.agg | apply DLe.tup | apply DLe.sl | apply DLe.cp | apply DLeL.cons | apply DLeLL.cons))) .nil) (fun s ob' hq => ?_) (fun s ob' hq => ?_))
      · cases hq.1
      obtain ⟨hq1, rfl⟩ := hq
      cases hq1
      refine ⟨_, _, _, _, _, rfl, rfl, rfl, rfl, rfl, ?_⟩
      refine leave_d ([0]) ([scO s b w pos]) rfl rfl rfl (by repeat (first | exact .nil | refine .cons rfl (.cells rfl (FitL.rfl _)) ?_ | refine .cons rfl .dead ?_ | refine .cons rfl .row ?_ | refine .cons rfl .nnrow ?_)) ?_
      exact ⟨rfl, rfl⟩
    )
  · try simp only [decide_eq_true_eq, decide_eq_false_iff_not, Bool.not_eq_true', Bool.not_eq_false', Bool.not_true, Bool.not_false, Int.not_lt, Int.not_le, Bool.and_eq_true, Bool.or_eq_true, Bool.and_eq_false_iff, Bool.or_eq_false_iff, Bool.false_eq_true, Bool.true_eq_false, not_true_eq_false, not_false_eq_true, decide_true, decide_false, true_and, and_true, false_and, and_false, true_or, or_true, false_or, or_false, Bool.true_and, Bool.false_and, Bool.and_true, Bool.and_false, Bool.true_or, Bool.false_or, Bool.or_true, Bool.or_false, Int.reduceEq, Int.reduceNe, Int.reduceLT, Int.reduceLE, Int.toNat_natCast, toNat_add1] at h2
    all_goals (first | contradiction | (exfalso; omega) | (exfalso; have h8 : isNameB w = true := (by simp only [isNameB, Bool.and_eq_true, decide_eq_true_eq]; exact ⟨h2.1, h2.2⟩); rw [hw] at h8; cases h8))

theorem end_ok (s : ByteArray) (b pos : Nat) :
    Tri Tryd.prog gl 36 [scO s b .empty pos] [.blk 0 0] fun out ob' => out = .ret (.d (.tup [])) ∧ ob' = [scO s b .empty pos] := by
  unfold scO
  refine triS_of_runs Tryd.func36 rfl Tryd.ntmps36 (rs := []) rfl rfl rfl 1 rfl ?_
  refine runs_seq ?_
  refine runs_region ?_
  refine ops_fl rfl rfl rfl (fl_move rfl rfl ?_)
  first
  | refine ops_fl rfl rfl rfl (fl_nil_blk rfl rfl ?_)
  | refine ops_fl rfl rfl rfl (fl_nil_cp rfl rfl ?_)
  first
  | refine ops_fl rfl rfl rfl (fl_field_blk ti90 rfl rfl rfl rfl ?_)
  | refine ops_fl rfl rfl rfl (fl_field_cp ti90 rfl rfl rfl rfl rfl ?_)
  first
  | refine ops_fl rfl rfl rfl (fl_load_blk ti9 rfl rfl rfl rfl rfl rfl rfl ?_)
  | refine ops_fl rfl rfl rfl (fl_load_cp ti9 rfl rfl rfl rfl rfl rfl ?_)
  refine ops_fl rfl rfl rfl (fl_sneq rfl rfl rfl ?_)
  refine ops_nil ?_
  refine seq_normal ?_
  refine runs_cond rfl (fun h0 => ?_) (fun h0 => ?_)
  · try simp only [decide_eq_true_eq, decide_eq_false_iff_not, Bool.not_eq_true', Bool.not_eq_false', Bool.not_true, Bool.not_false, Int.not_lt, Int.not_le, Bool.and_eq_true, Bool.or_eq_true, Bool.and_eq_false_iff, Bool.or_eq_false_iff, Bool.false_eq_true, Bool.true_eq_false, not_true_eq_false, not_false_eq_true, decide_true, decide_false, true_and, and_true, false_and, and_false, true_or, or_true, false_or, or_false, Bool.true_and, Bool.false_and, Bool.and_true, Bool.and_false, Bool.true_or, Bool.false_or, Bool.or_true, Bool.or_false, Int.reduceEq, Int.reduceNe, Int.reduceLT, Int.reduceLE, Int.toNat_natCast, toNat_add1] at h0
    all_goals (first | contradiction | (exfalso; omega) | (exfalso; exact h0 rfl))
  · try simp only [decide_eq_true_eq, decide_eq_false_iff_not, Bool.not_eq_true', Bool.not_eq_false', Bool.not_true, Bool.not_false, Int.not_lt, Int.not_le, Bool.and_eq_true, Bool.or_eq_true, Bool.and_eq_false_iff, Bool.or_eq_false_iff, Bool.false_eq_true, Bool.true_eq_false, not_true_eq_false, not_false_eq_true, decide_true, decide_false, true_and, and_true, false_and, and_false, true_or, or_true, false_or, or_false, Bool.true_and, Bool.false_and, Bool.and_true, Bool.and_false, Bool.true_or, Bool.false_or, Bool.or_true, Bool.or_false, Int.reduceEq, Int.reduceNe, Int.reduceLT, Int.reduceLE, Int.toNat_natCast, toNat_add1] at h0
    all_goals try (first | contradiction | (exfalso; omega))
    all_goals (
      refine runs_skip ?_
      refine fin_normal ?_
      refine fin_od (l := []) rfl rfl ([0]) ([scO s b .empty pos]) rfl rfl rfl ?_ ?_
      · repeat (first | exact .nil | refine .cons rfl (.cells rfl (FitL.rfl _)) ?_ | refine .cons rfl .row ?_ | refine .cons rfl .mapI ?_ | refine .cons rfl .nnrow ?_ | refine .cons rfl .nrow ?_ | refine .cons rfl .dead ?_ | refine .cons rfl (.cells rfl ?_) ?_ | refine .cons (by first | exact .refl _ | exact .toD rfl | exact .nilD) ?_)
      · exact ⟨rfl, rfl⟩
    )
theorem end_bad (s : ByteArray) (b : Nat) (tok : ByteArray) (pos : Nat) (hw : ¬ tok = .empty) :
    Tri Tryd.prog gl 36 [scO s b tok pos] [.blk 0 0] fun out ob' => out = .pan (.d (fltD 1 pos)) ∧ ob' = [scO s b tok pos] := by
  unfold scO
  refine triS_of_runs Tryd.func36 rfl Tryd.ntmps36 (rs := []) rfl rfl rfl 1 rfl ?_
  refine runs_seq ?_
  refine runs_region ?_
  refine ops_fl rfl rfl rfl (fl_move rfl rfl ?_)
  first
  | refine ops_fl rfl rfl rfl (fl_nil_blk rfl rfl ?_)
  | refine ops_fl rfl rfl rfl (fl_nil_cp rfl rfl ?_)
  first
  | refine ops_fl rfl rfl rfl (fl_field_blk ti90 rfl rfl rfl rfl ?_)
  | refine ops_fl rfl rfl rfl (fl_field_cp ti90 rfl rfl rfl rfl rfl ?_)
  first
  | refine ops_fl rfl rfl rfl (fl_load_blk ti9 rfl rfl rfl rfl rfl rfl rfl ?_)
  | refine ops_fl rfl rfl rfl (fl_load_cp ti9 rfl rfl rfl rfl rfl rfl ?_)
  refine ops_fl rfl rfl rfl (fl_sneq rfl rfl rfl ?_)
  refine ops_nil ?_
  refine seq_normal ?_
  refine runs_cond rfl (fun h0 => ?_) (fun h0 => ?_)
  · try simp only [decide_eq_true_eq, decide_eq_false_iff_not, Bool.not_eq_true', Bool.not_eq_false', Bool.not_true, Bool.not_false, Int.not_lt, Int.not_le, Bool.and_eq_true, Bool.or_eq_true, Bool.and_eq_false_iff, Bool.or_eq_false_iff, Bool.false_eq_true, Bool.true_eq_false, not_true_eq_false, not_false_eq_true, decide_true, decide_false, true_and, and_true, false_and, and_false, true_or, or_true, false_or, or_false, Bool.true_and, Bool.false_and, Bool.and_true, Bool.and_false, Bool.true_or, Bool.false_or, Bool.or_true, Bool.or_false, Int.reduceEq, Int.reduceNe, Int.reduceLT, Int.reduceLE, Int.toNat_natCast, toNat_add1] at h0
    all_goals try (first | contradiction | (exfalso; omega))
    all_goals (
      refine runs_keep [0] rfl ?_
      refine runs_region ?_
      refine ops_fl rfl rfl rfl (fl_move rfl rfl ?_)
      refine ops_cons rfl (op_callo ca51 rfl rfl rfl rfl (sfail_spec s b tok pos) [0] (.cons rfl (by first | exact .cells rfl (FitL.rfl _) | exact .row | exact .nrow | exact .mapI | exact .nnrow | (refine .cells rfl ?_; repeat (first | exact .nil | refine .cons (by first | exact .refl _ | exact .toD rfl | exact .nil rfl | exact .nilD) ?_))) .nil) rfl rfl rfl rfl (.cons (by first | exact .refl _ | exact .toD rfl | exact .nil rfl | exact .nilD | exact .dle rfl (by repeat' (first | exact DLe.refl _ | exact DLe.nil | exact DLeL.nil | exact DLeLL.nil | apply DLe.agg | apply DLe.tup | apply DLe.sl | apply DLe.cp | apply DLeL.cons | apply DLeLL.cons))) .nil) (fun s ob' hq => ?_) (fun s ob' hq => ?_))
      · cases hq.1
      obtain ⟨hq1, rfl⟩ := hq
      cases hq1
      refine ⟨_, _, _, _, _, rfl, rfl, rfl, rfl, rfl, ?_⟩
      refine leave_d ([0]) ([scO s b tok pos]) rfl rfl rfl (by repeat (first | exact .nil | refine .cons rfl (.cells rfl (FitL.rfl _)) ?_ | refine .cons rfl .dead ?_ | refine .cons rfl .row ?_ | refine .cons rfl .nnrow ?_)) ?_
      exact ⟨rfl, rfl⟩
    )
  · try simp only [decide_eq_true_eq, decide_eq_false_iff_not, Bool.not_eq_true', Bool.not_eq_false', Bool.not_true, Bool.not_false, Int.not_lt, Int.not_le, Bool.and_eq_true, Bool.or_eq_true, Bool.and_eq_false_iff, Bool.or_eq_false_iff, Bool.false_eq_true, Bool.true_eq_false, not_true_eq_false, not_false_eq_true, decide_true, decide_false, true_and, and_true, false_and, and_false, true_or, or_true, false_or, or_false, Bool.true_and, Bool.false_and, Bool.and_true, Bool.and_false, Bool.true_or, Bool.false_or, Bool.or_true, Bool.or_false, Int.reduceEq, Int.reduceNe, Int.reduceLT, Int.reduceLE, Int.toNat_natCast, toNat_add1] at h0
    all_goals (first | contradiction | (exfalso; omega) | (exfalso; exact hw h0))
theorem new_spec (s : ByteArray) (hs : s.size ≤ 1099511627776) :
    Tri Tryd.prog gl 34 [] [.d (.v (.string s))] fun out ob' => out = .ret (.blk 0 0) ∧ ob' = [scA s 0] := by
  refine triS_of_runs Tryd.func34 rfl Tryd.ntmps34 (rs := [.tmp 2]) rfl rfl rfl 0 rfl ?_
  refine runs_seq ?_
  refine runs_region ?_
  refine ops_fl rfl rfl rfl (fl_assign rfl rfl ?_)
  refine ops_nil ?_
  refine seq_normal ?_
  refine runs_seq ?_
  refine runs_region ?_
  refine ops_fl rfl rfl rfl (fl_move rfl rfl ?_)
  refine ops_fl rfl rfl rfl (fl_build ti90 rfl rfl rfl rfl rfl rfl rfl ?_)
  refine ops_cons (T := fun _ => False) rfl (op_box ti90 rfl rfl rfl rfl rfl (by simp only [List.length_cons, List.length_nil, Nat.reduceAdd]; rfl) rfl ?_)
  refine ops_fl rfl rfl rfl (fl_assign rfl rfl ?_)
  refine ops_nil ?_
  refine seq_normal ?_
  refine runs_seq ?_
  refine runs_keep [3] rfl ?_
  refine runs_region ?_
  refine ops_fl rfl rfl rfl (fl_move rfl rfl ?_)
  refine ops_cons rfl (op_callo ca50 rfl rfl rfl rfl (step_spec s hs 0 (Nat.zero_le _) .empty 0) [0] (.cons rfl (by first | exact .cells rfl (FitL.rfl _) | exact .row | exact .nrow | exact .mapI | exact .nnrow | (refine .cells rfl ?_; repeat (first | exact .nil | refine .cons (by first | exact .refl _ | exact .toD rfl | exact .nil rfl | exact .nilD) ?_))) .nil) rfl rfl rfl rfl (.cons (by first | exact .refl _ | exact .toD rfl | exact .nil rfl | exact .nilD | exact .dle rfl (by repeat' (first | exact DLe.refl _ | exact DLe.nil | exact DLeL.nil | exact DLeLL.nil | apply DLe.agg | apply DLe.tup | apply DLe.sl | apply DLe.cp | apply DLeL.cons | apply DLeLL.cons))) .nil) (fun s ob' hq => ?_) (fun s ob' hq => ?_))
  rotate_left
  · first | exact hq.elim | cases hq.1
  obtain ⟨hq1, rfl⟩ := hq
  cases hq1
  refine ⟨_, _, _, _, _, rfl, rfl, rfl, rfl, rfl, ?_⟩
  refine ops_nil ?_
  refine seq_normal ?_
  refine runs_seq ?_
  refine runs_region ?_
  refine ops_fl rfl rfl rfl (fl_move rfl rfl ?_)
  refine ops_fl rfl rfl rfl (fl_assign rfl rfl ?_)
  refine ops_nil ?_
  refine seq_normal ?_
  refine runs_ret ?_
  refine fin_ret ?_
  refine fin_o ⟨_, _, rfl, rfl, rfl⟩ [0] (.blk 0 0) ([scA s 0]) rfl rfl rfl ?_ rfl ?_ ?_
  · repeat (first | exact .nil | refine .cons rfl (.cells rfl (FitL.rfl _)) ?_ | refine .cons rfl (.cells rfl (by repeat (first | exact .nil | refine .cons (by first | exact .refl _ | exact .toD rfl | exact .nil rfl | exact .nilD | exact Fit.of_eq rfl) ?_))) ?_ | refine .cons rfl .row ?_ | refine .cons rfl .mapI ?_ | refine .cons rfl .nnrow ?_ | refine .cons rfl .nrow ?_ | refine .cons rfl .dead ?_ | refine .cons rfl (.cells rfl ?_) ?_ | refine .cons (by first | exact .refl _ | exact .toD rfl | exact .nilD) ?_)
  · first | exact .refl _ | exact .toD rfl | exact .nilD
  · exact ⟨rfl, rfl⟩
end Go.Proofs.YtafhnnbbfgoacaaDoor
