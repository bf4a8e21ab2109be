/-
  What is proved here: contracts of the reference's reader: fail, next, take, done.
-/
import Derived.Test.YtafhnnbbfgoacaaDoorYR5
set_option linter.unusedSimpArgs false
set_option linter.unusedVariables false
namespace Go.Proofs.YtafhnnbbfgoacaaDoor
open Go Go.Vd Go.RowKit
attribute [local irreducible] Runs OpsR OpR FloatR AnyR
variable {gl : Nat → List D}

/-- a reader -/
def rdO (s : ByteArray) (r : RS) : Ob := .cells [.d (.v (.string s)), .d (.v (.int .i64 r.p)), .d (.v (.int .i64 (fcode r.f))), .d (.v (.int .i64 (fat r.f)))] 53

theorem fail_spec (s : ByteArray) (at' : Nat) (r : RS) :
    Tri Tryd.prog gl 44 [rdO s r] [.blk 0 0, .d (.v (.int .i64 at'))] fun out ob' => out = .ret (.d (.tup [])) ∧ ob' = [rdO s (r.fail at')] := by
  obtain ⟨p, f⟩ := r
  cases f with
  | none =>
    refine triS_of_runs Tryd.func44 rfl Tryd.ntmps44 (rs := []) rfl rfl rfl 1 rfl ?_
    refine runs_seq ?_
    refine runs_region ?_
    refine ops_fl rfl rfl rfl (fl_move rfl rfl ?_)
    first
    | refine ops_fl rfl rfl rfl (fl_nil_blk rfl rfl ?_)
    | refine ops_fl rfl rfl rfl (fl_nil_cp rfl rfl ?_)
    first
    | refine ops_fl rfl rfl rfl (fl_field_blk ti53 rfl rfl rfl rfl ?_)
    | refine ops_fl rfl rfl rfl (fl_field_cp ti53 rfl rfl rfl rfl rfl ?_)
    first
    | refine ops_fl rfl rfl rfl (fl_field_blk ti33 rfl rfl rfl rfl ?_)
    | refine ops_fl rfl rfl rfl (fl_field_cp ti33 rfl rfl rfl rfl rfl ?_)
    first
    | refine ops_fl rfl rfl rfl (fl_load_blk ti3 rfl rfl rfl rfl rfl rfl rfl ?_)
    | refine ops_fl rfl rfl rfl (fl_load_cp ti3 rfl rfl rfl rfl rfl rfl ?_)
    refine ops_fl rfl rfl rfl (fl_eql rfl rfl rfl ?_)
    refine ops_nil ?_
    refine seq_normal ?_
    refine runs_cond rfl (fun h0 => ?_) (fun h0 => ?_)
    · try simp only [decide_eq_true_eq, decide_eq_false_iff_not, Bool.not_eq_true', Bool.not_eq_false', Bool.not_true, Bool.not_false, Int.not_lt, Int.not_le, Bool.and_eq_true, Bool.or_eq_true, Bool.and_eq_false_iff, Bool.or_eq_false_iff, Bool.false_eq_true, Bool.true_eq_false, not_true_eq_false, not_false_eq_true, decide_true, decide_false, true_and, and_true, false_and, and_false, true_or, or_true, false_or, or_false, Bool.true_and, Bool.false_and, Bool.and_true, Bool.and_false, Bool.true_or, Bool.false_or, Bool.or_true, Bool.or_false, Int.reduceEq, Int.reduceNe, Int.reduceLT, Int.reduceLE, Int.toNat_natCast, toNat_add1, fcode, fat] at h0
      all_goals try (first | contradiction | (exfalso; omega))
      all_goals (
        refine runs_keep [0, 1] rfl ?_
        refine runs_region ?_
        refine ops_fl rfl rfl rfl (fl_move rfl rfl ?_)
        refine ops_fl rfl rfl rfl (fl_move rfl rfl ?_)
        refine ops_fl rfl rfl rfl (fl_build ti33 rfl rfl rfl rfl rfl rfl rfl ?_)
        first
        | refine ops_fl rfl rfl rfl (fl_nil_blk rfl rfl ?_)
        | refine ops_fl rfl rfl rfl (fl_nil_cp rfl rfl ?_)
        first
        | refine ops_fl rfl rfl rfl (fl_field_blk ti53 rfl rfl rfl rfl ?_)
        | refine ops_fl rfl rfl rfl (fl_field_cp ti53 rfl rfl rfl rfl rfl ?_)
        refine ops_cons rfl (op_store ti33 rfl rfl rfl rfl rfl rfl rfl rfl rfl rfl rfl ?_)
        refine ops_nil ?_
        refine fin_normal ?_
        refine fin_od (l := []) rfl rfl ([0]) ([rdO s (RS.fail at' ⟨p, none⟩)]) rfl rfl rfl ?_ ?_
        · repeat (first | exact .nil | refine .cons rfl (.cells rfl (FitL.rfl _)) ?_ | refine .cons rfl .row ?_ | refine .cons rfl .mapI ?_ | refine .cons rfl .nnrow ?_ | refine .cons rfl .nrow ?_ | refine .cons rfl .dead ?_ | refine .cons rfl (.cells rfl ?_) ?_ | refine .cons (by first | exact .refl _ | exact .toD rfl | exact .nilD) ?_)
        · exact ⟨rfl, rfl⟩
      )
    · try simp only [decide_eq_true_eq, decide_eq_false_iff_not, Bool.not_eq_true', Bool.not_eq_false', Bool.not_true, Bool.not_false, Int.not_lt, Int.not_le, Bool.and_eq_true, Bool.or_eq_true, Bool.and_eq_false_iff, Bool.or_eq_false_iff, Bool.false_eq_true, Bool.true_eq_false, not_true_eq_false, not_false_eq_true, decide_true, decide_false, true_and, and_true, false_and, and_false, true_or, or_true, false_or, or_false, Bool.true_and, Bool.false_and, Bool.and_true, Bool.and_false, Bool.true_or, Bool.false_or, Bool.or_true, Bool.or_false, Int.reduceEq, Int.reduceNe, Int.reduceLT, Int.reduceLE, Int.toNat_natCast, toNat_add1, fcode, fat] at h0
      all_goals (first | contradiction | (exfalso; omega) | (exfalso; simp_all))
  | some a =>
    refine triS_of_runs Tryd.func44 rfl Tryd.ntmps44 (rs := []) rfl rfl rfl 1 rfl ?_
    refine runs_seq ?_
    refine runs_region ?_
    refine ops_fl rfl rfl rfl (fl_move rfl rfl ?_)
    first
    | refine ops_fl rfl rfl rfl (fl_nil_blk rfl rfl ?_)
    | refine ops_fl rfl rfl rfl (fl_nil_cp rfl rfl ?_)
    first
    | refine ops_fl rfl rfl rfl (fl_field_blk ti53 rfl rfl rfl rfl ?_)
    | refine ops_fl rfl rfl rfl (fl_field_cp ti53 rfl rfl rfl rfl rfl ?_)
    first
    | refine ops_fl rfl rfl rfl (fl_field_blk ti33 rfl rfl rfl rfl ?_)
    | refine ops_fl rfl rfl rfl (fl_field_cp ti33 rfl rfl rfl rfl rfl ?_)
    first
    | refine ops_fl rfl rfl rfl (fl_load_blk ti3 rfl rfl rfl rfl rfl rfl rfl ?_)
    | refine ops_fl rfl rfl rfl (fl_load_cp ti3 rfl rfl rfl rfl rfl rfl ?_)
    refine ops_fl rfl rfl rfl (fl_eql rfl rfl rfl ?_)
    refine ops_nil ?_
    refine seq_normal ?_
    refine runs_cond rfl (fun h0 => ?_) (fun h0 => ?_)
    · try simp only [decide_eq_true_eq, decide_eq_false_iff_not, Bool.not_eq_true', Bool.not_eq_false', Bool.not_true, Bool.not_false, Int.not_lt, Int.not_le, Bool.and_eq_true, Bool.or_eq_true, Bool.and_eq_false_iff, Bool.or_eq_false_iff, Bool.false_eq_true, Bool.true_eq_false, not_true_eq_false, not_false_eq_true, decide_true, decide_false, true_and, and_true, false_and, and_false, true_or, or_true, false_or, or_false, Bool.true_and, Bool.false_and, Bool.and_true, Bool.and_false, Bool.true_or, Bool.false_or, Bool.or_true, Bool.or_false, Int.reduceEq, Int.reduceNe, Int.reduceLT, Int.reduceLE, Int.toNat_natCast, toNat_add1, fcode, fat] at h0
      all_goals (first | contradiction | (exfalso; omega) | (exfalso; simp_all))
    · try simp only [decide_eq_true_eq, decide_eq_false_iff_not, Bool.not_eq_true', Bool.not_eq_false', Bool.not_true, Bool.not_false, Int.not_lt, Int.not_le, Bool.and_eq_true, Bool.or_eq_true, Bool.and_eq_false_iff, Bool.or_eq_false_iff, Bool.false_eq_true, Bool.true_eq_false, not_true_eq_false, not_false_eq_true, decide_true, decide_false, true_and, and_true, false_and, and_false, true_or, or_true, false_or, or_false, Bool.true_and, Bool.false_and, Bool.and_true, Bool.and_false, Bool.true_or, Bool.false_or, Bool.or_true, Bool.or_false, Int.reduceEq, Int.reduceNe, Int.reduceLT, Int.reduceLE, Int.toNat_natCast, toNat_add1, fcode, fat] at h0
      all_goals try (first | contradiction | (exfalso; omega))
      all_goals (
        refine runs_skip ?_
        refine fin_normal ?_
        refine fin_od (l := []) rfl rfl ([0]) ([rdO s (RS.fail at' ⟨p, some a⟩)]) rfl rfl rfl ?_ ?_
        · repeat (first | exact .nil | refine .cons rfl (.cells rfl (FitL.rfl _)) ?_ | refine .cons rfl .row ?_ | refine .cons rfl .mapI ?_ | refine .cons rfl .nnrow ?_ | refine .cons rfl .nrow ?_ | refine .cons rfl .dead ?_ | refine .cons rfl (.cells rfl ?_) ?_ | refine .cons (by first | exact .refl _ | exact .toD rfl | exact .nilD) ?_)
        · exact ⟨rfl, rfl⟩
      )

theorem next_spec (s : ByteArray) (r : RS) (hs : s.size ≤ 1099511627776) (hp : r.p ≤ s.size) :
    Tri Tryd.prog gl 43 [rdO s r] [.blk 0 0] fun out ob' => out = .ret (.d (.v (.string (nextR s r).1))) ∧ ob' = [rdO s (nextR s r).2] := by
  have hat := tokR_at (s := s) hp
  obtain ⟨p, f⟩ := r
  simp only at hat hp
  cases f with
  | none =>
    refine triS_of_runs Tryd.func43 rfl Tryd.ntmps43 (rs := [.tmp 2]) rfl rfl rfl 1 rfl ?_
    refine runs_seq ?_
    refine runs_region ?_
    refine ops_fl rfl rfl rfl (fl_assign rfl rfl ?_)
    refine ops_nil ?_
    refine seq_normal ?_
    refine runs_seq ?_
    refine runs_region ?_
    refine ops_fl rfl rfl rfl (fl_move rfl rfl ?_)
    refine ops_cons rfl (op_callo ca41 rfl rfl rfl rfl (token_spec s p (fcode none) (fat none) hs hp) [0] (.cons rfl (by first | exact .cells rfl (FitL.rfl _) | exact .row | exact .nrow | exact .mapI | exact .nnrow | (refine .cells rfl ?_; repeat (first | exact .nil | refine .cons (by first | exact .refl _ | exact .toD rfl | exact .nil rfl | exact .nilD) ?_))) .nil) rfl rfl rfl rfl (.cons (by first | exact .refl _ | exact .toD rfl | exact .nil rfl | exact .nilD | exact .dle rfl (by repeat' (first | exact DLe.refl _ | exact DLe.nil | exact DLeL.nil | exact DLeLL.nil | apply DLe.agg | apply DLe.tup | apply DLe.sl | apply DLe.cp | apply DLeL.cons | apply DLeLL.cons))) .nil) (fun s ob' hq => ?_) (fun s ob' hq => ?_))
    rotate_left
    · first | exact hq.elim | cases hq.1
    obtain ⟨hq1, rfl⟩ := hq
    cases hq1
    refine ⟨_, _, _, _, _, rfl, rfl, rfl, rfl, rfl, ?_⟩
    refine ops_fl rfl rfl rfl (fl_move rfl rfl ?_)
    first
    | refine ops_fl rfl rfl rfl (fl_extract rfl rfl rfl ?_)
    | refine ops_fl rfl rfl rfl (fl_extract_d rfl rfl rfl ?_)
    first
    | refine ops_fl rfl rfl rfl (fl_extract rfl rfl rfl ?_)
    | refine ops_fl rfl rfl rfl (fl_extract_d rfl rfl rfl ?_)
    first
    | refine ops_fl rfl rfl rfl (fl_extract rfl rfl rfl ?_)
    | refine ops_fl rfl rfl rfl (fl_extract_d rfl rfl rfl ?_)
    refine ops_fl rfl rfl rfl (fl_assign rfl rfl ?_)
    refine ops_fl rfl rfl rfl (fl_assign rfl rfl ?_)
    refine ops_fl rfl rfl rfl (fl_assign rfl rfl ?_)
    refine ops_nil ?_
    refine seq_normal ?_
    refine runs_seq ?_
    refine runs_seq ?_
    refine runs_keep [5, 4, 3, 0] rfl ?_
    refine runs_region ?_
    refine ops_fl rfl rfl rfl (fl_move rfl rfl ?_)
    refine ops_fl rfl rfl rfl (fl_not rfl rfl ?_)
    refine ops_fl rfl rfl rfl (fl_move rfl rfl ?_)
    apply ops_or (yt := 16) (d := 14) 2 rfl rfl rfl (.none rfl) rfl rfl
    case h1 =>
      intro hb4 hK
      have hc := hb4; try simp only [decide_eq_true_eq, decide_eq_false_iff_not, Bool.not_eq_true', Bool.not_eq_false', Bool.not_true, Bool.not_false, Int.not_lt, Int.not_le, Bool.and_eq_true, Bool.or_eq_true, Bool.and_eq_false_iff, Bool.or_eq_false_iff, Bool.false_eq_true, Bool.true_eq_false, not_true_eq_false, not_false_eq_true, decide_true, decide_false, true_and, and_true, false_and, and_false, true_or, or_true, false_or, or_false, Bool.true_and, Bool.false_and, Bool.and_true, Bool.and_false, Bool.true_or, Bool.false_or, Bool.or_true, Bool.or_false, Int.reduceEq, Int.reduceNe, Int.reduceLT, Int.reduceLE, Int.toNat_natCast, toNat_add1, fcode, fat, RS.fail] at hc
      all_goals try (first | contradiction | (exfalso; omega))
      all_goals (
        refine ops_gyes rfl rfl rfl hb4 ?_
        refine ops_fl rfl rfl rfl (fl_move rfl rfl ?_)
        refine ops_gyes rfl rfl rfl hb4 ?_
        refine ops_fl rfl rfl rfl (fl_seql rfl rfl rfl ?_)
        exact hK [_, _] rfl rfl)
    case h2 =>
      intro hb4 hK
      refine ops_gno rfl rfl rfl hb4 rfl rfl ?_
      refine ops_gno rfl rfl rfl hb4 rfl rfl ?_
      exact hK [_, _] rfl
    refine ops_nil ?_
    refine seq_normal ?_
    refine runs_cond rfl (fun h2 => ?_) (fun h2 => ?_)
    · try simp only [decide_eq_true_eq, decide_eq_false_iff_not, Bool.not_eq_true', Bool.not_eq_false', Bool.not_true, Bool.not_false, Int.not_lt, Int.not_le, Bool.and_eq_true, Bool.or_eq_true, Bool.and_eq_false_iff, Bool.or_eq_false_iff, Bool.false_eq_true, Bool.true_eq_false, not_true_eq_false, not_false_eq_true, decide_true, decide_false, true_and, and_true, false_and, and_false, true_or, or_true, false_or, or_false, Bool.true_and, Bool.false_and, Bool.and_true, Bool.and_false, Bool.true_or, Bool.false_or, Bool.or_true, Bool.or_false, Int.reduceEq, Int.reduceNe, Int.reduceLT, Int.reduceLE, Int.toNat_natCast, toNat_add1, fcode, fat, RS.fail] at h2
      all_goals try (first | contradiction | (exfalso; omega))
      all_goals (
        refine runs_keep [4, 3, 0] rfl ?_
        refine runs_region ?_
        refine ops_fl rfl rfl rfl (fl_move rfl rfl ?_)
        refine ops_fl rfl rfl rfl (fl_move rfl rfl ?_)
        refine ops_cons rfl (op_callo ca44 rfl rfl rfl rfl (fail_spec s (tokR s p).2.1 ⟨p, none⟩) [0] (.cons rfl (by first | exact .cells rfl (FitL.rfl _) | exact .row | exact .nrow | exact .mapI | exact .nnrow | (refine .cells rfl ?_; repeat (first | exact .nil | refine .cons (by first | exact .refl _ | exact .toD rfl | exact .nil rfl | exact .nilD) ?_))) .nil) rfl rfl rfl rfl (.cons (by first | exact .refl _ | exact .toD rfl | exact .nil rfl | exact .nilD | exact .dle rfl (by repeat' (first | exact DLe.refl _ | exact DLe.nil | exact DLeL.nil | exact DLeLL.nil | apply DLe.agg | apply DLe.tup | apply DLe.sl | apply DLe.cp | apply DLeL.cons | apply DLeLL.cons))) (.cons (by first | exact .refl _ | exact .toD rfl | exact .nil rfl | exact .nilD | exact .dle rfl (by repeat' (first | exact DLe.refl _ | exact DLe.nil | exact DLeL.nil | exact DLeLL.nil | apply DLe.agg | apply DLe.tup | apply DLe.sl | apply DLe.cp | apply DLeL.cons | apply DLeLL.cons))) .nil)) (fun s ob' hq => ?_) (fun s ob' hq => ?_))
        rotate_left
        · first | exact hq.elim | cases hq.1
        obtain ⟨hq1, rfl⟩ := hq
        cases hq1
        refine ⟨_, _, _, _, _, rfl, rfl, rfl, rfl, rfl, ?_⟩
        refine ops_nil ?_
        refine seq_normal ?_
        refine runs_seq ?_
        refine runs_seq ?_
        refine runs_region ?_
        refine ops_fl rfl rfl rfl (fl_move rfl rfl ?_)
        first
        | refine ops_fl rfl rfl rfl (fl_nil_blk rfl rfl ?_)
        | refine ops_fl rfl rfl rfl (fl_nil_cp rfl rfl ?_)
        first
        | refine ops_fl rfl rfl rfl (fl_field_blk ti53 rfl rfl rfl rfl ?_)
        | refine ops_fl rfl rfl rfl (fl_field_cp ti53 rfl rfl rfl rfl rfl ?_)
        first
        | refine ops_fl rfl rfl rfl (fl_field_blk ti33 rfl rfl rfl rfl ?_)
        | refine ops_fl rfl rfl rfl (fl_field_cp ti33 rfl rfl rfl rfl rfl ?_)
        first
        | refine ops_fl rfl rfl rfl (fl_load_blk ti3 rfl rfl rfl rfl rfl rfl rfl ?_)
        | refine ops_fl rfl rfl rfl (fl_load_cp ti3 rfl rfl rfl rfl rfl rfl ?_)
        refine ops_fl rfl rfl rfl (fl_neq rfl rfl rfl ?_)
        refine ops_nil ?_
        refine seq_normal ?_
        refine runs_cond rfl (fun h4 => ?_) (fun h4 => ?_)
        · try simp only [decide_eq_true_eq, decide_eq_false_iff_not, Bool.not_eq_true', Bool.not_eq_false', Bool.not_true, Bool.not_false, Int.not_lt, Int.not_le, Bool.and_eq_true, Bool.or_eq_true, Bool.and_eq_false_iff, Bool.or_eq_false_iff, Bool.false_eq_true, Bool.true_eq_false, not_true_eq_false, not_false_eq_true, decide_true, decide_false, true_and, and_true, false_and, and_false, true_or, or_true, false_or, or_false, Bool.true_and, Bool.false_and, Bool.and_true, Bool.and_false, Bool.true_or, Bool.false_or, Bool.or_true, Bool.or_false, Int.reduceEq, Int.reduceNe, Int.reduceLT, Int.reduceLE, Int.toNat_natCast, toNat_add1, fcode, fat, RS.fail] at h4
          all_goals try (first | contradiction | (exfalso; omega))
          all_goals (
            refine runs_seq ?_
            refine runs_keep [] rfl ?_
            refine runs_region ?_
            refine ops_fl rfl rfl rfl (fl_assign rfl rfl ?_)
            refine ops_nil ?_
            refine seq_normal ?_
            refine runs_ret ?_
            refine seq_ret ?_
            refine fin_ret ?_
            refine fin_od ⟨_, _, rfl, rfl, rfl⟩ rfl ([0]) ([rdO s (RS.fail (tokR s p).2.1 ⟨p, none⟩)]) rfl rfl rfl ?_ ?_
            · repeat (first | exact .nil | refine .cons rfl (.cells rfl (FitL.rfl _)) ?_ | refine .cons rfl .row ?_ | refine .cons rfl .mapI ?_ | refine .cons rfl .nnrow ?_ | refine .cons rfl .nrow ?_ | refine .cons rfl .dead ?_ | refine .cons rfl (.cells rfl ?_) ?_ | refine .cons (by first | exact .refl _ | exact .toD rfl | exact .nilD) ?_)
            · unfold nextR; simp only; rw [if_pos (by exact h2)]; exact ⟨rfl, rfl⟩
          )
        · try simp only [decide_eq_true_eq, decide_eq_false_iff_not, Bool.not_eq_true', Bool.not_eq_false', Bool.not_true, Bool.not_false, Int.not_lt, Int.not_le, Bool.and_eq_true, Bool.or_eq_true, Bool.and_eq_false_iff, Bool.or_eq_false_iff, Bool.false_eq_true, Bool.true_eq_false, not_true_eq_false, not_false_eq_true, decide_true, decide_false, true_and, and_true, false_and, and_false, true_or, or_true, false_or, or_false, Bool.true_and, Bool.false_and, Bool.and_true, Bool.and_false, Bool.true_or, Bool.false_or, Bool.or_true, Bool.or_false, Int.reduceEq, Int.reduceNe, Int.reduceLT, Int.reduceLE, Int.toNat_natCast, toNat_add1, fcode, fat, RS.fail] at h4
          all_goals try (first | contradiction | (exfalso; omega))
          all_goals (
            refine runs_skip ?_
            refine seq_normal ?_
            refine runs_seq ?_
            refine runs_keep [4, 3, 0] rfl ?_
            refine runs_region ?_
            refine ops_fl rfl rfl rfl (fl_move rfl rfl ?_)
            refine ops_fl rfl rfl rfl (fl_move rfl rfl ?_)
            refine ops_fl rfl rfl rfl (fl_move rfl rfl ?_)
            refine ops_fl rfl rfl rfl (fl_len_s ut9 rfl rfl ?_)
            refine ops_fl rfl rfl rfl (fl_add rfl rfl rfl (by omega) ?_)
            first
            | refine ops_fl rfl rfl rfl (fl_nil_blk rfl rfl ?_)
            | refine ops_fl rfl rfl rfl (fl_nil_cp rfl rfl ?_)
            first
            | refine ops_fl rfl rfl rfl (fl_field_blk ti53 rfl rfl rfl rfl ?_)
            | refine ops_fl rfl rfl rfl (fl_field_cp ti53 rfl rfl rfl rfl rfl ?_)
            refine ops_cons rfl (op_store ti3 rfl rfl rfl rfl rfl rfl rfl rfl rfl rfl rfl ?_)
            refine ops_nil ?_
            refine seq_normal ?_
            refine runs_seq ?_
            refine runs_keep [3] rfl ?_
            refine runs_region ?_
            refine ops_fl rfl rfl rfl (fl_move rfl rfl ?_)
            refine ops_fl rfl rfl rfl (fl_assign rfl rfl ?_)
            refine ops_nil ?_
            refine seq_normal ?_
            refine runs_ret ?_
            refine fin_ret ?_
            refine fin_od ⟨_, _, rfl, rfl, rfl⟩ rfl ([0]) ([rdO s ⟨(tokR s p).2.1 + (tokR s p).1.size, none⟩]) rfl rfl rfl ?_ ?_
            · repeat (first | exact .nil | refine .cons rfl (.cells rfl (FitL.rfl _)) ?_ | refine .cons rfl .row ?_ | refine .cons rfl .mapI ?_ | refine .cons rfl .nnrow ?_ | refine .cons rfl .nrow ?_ | refine .cons rfl .dead ?_ | refine .cons rfl (.cells rfl ?_) ?_ | refine .cons (by first | exact .refl _ | exact .toD rfl | exact .nilD) ?_)
            · unfold nextR; simp only; rw [if_neg (by rintro (h | h); exact absurd h (by simpa using h2.1); exact h2.2 h)]; exact ⟨rfl, rfl⟩
          )
      )
    · try simp only [decide_eq_true_eq, decide_eq_false_iff_not, Bool.not_eq_true', Bool.not_eq_false', Bool.not_true, Bool.not_false, Int.not_lt, Int.not_le, Bool.and_eq_true, Bool.or_eq_true, Bool.and_eq_false_iff, Bool.or_eq_false_iff, Bool.false_eq_true, Bool.true_eq_false, not_true_eq_false, not_false_eq_true, decide_true, decide_false, true_and, and_true, false_and, and_false, true_or, or_true, false_or, or_false, Bool.true_and, Bool.false_and, Bool.and_true, Bool.and_false, Bool.true_or, Bool.false_or, Bool.or_true, Bool.or_false, Int.reduceEq, Int.reduceNe, Int.reduceLT, Int.reduceLE, Int.toNat_natCast, toNat_add1, fcode, fat, RS.fail] at h2
      all_goals try (first | contradiction | (exfalso; omega))
      all_goals (
        refine runs_skip ?_
        refine seq_normal ?_
        refine runs_seq ?_
        refine runs_seq ?_
        refine runs_keep [4, 3, 0] rfl ?_
        refine runs_region ?_
        refine ops_fl rfl rfl rfl (fl_move rfl rfl ?_)
        first
        | refine ops_fl rfl rfl rfl (fl_nil_blk rfl rfl ?_)
        | refine ops_fl rfl rfl rfl (fl_nil_cp rfl rfl ?_)
        first
        | refine ops_fl rfl rfl rfl (fl_field_blk ti53 rfl rfl rfl rfl ?_)
        | refine ops_fl rfl rfl rfl (fl_field_cp ti53 rfl rfl rfl rfl rfl ?_)
        first
        | refine ops_fl rfl rfl rfl (fl_field_blk ti33 rfl rfl rfl rfl ?_)
        | refine ops_fl rfl rfl rfl (fl_field_cp ti33 rfl rfl rfl rfl rfl ?_)
        first
        | refine ops_fl rfl rfl rfl (fl_load_blk ti3 rfl rfl rfl rfl rfl rfl rfl ?_)
        | refine ops_fl rfl rfl rfl (fl_load_cp ti3 rfl rfl rfl rfl rfl rfl ?_)
        refine ops_fl rfl rfl rfl (fl_neq rfl rfl rfl ?_)
        refine ops_nil ?_
        refine seq_normal ?_
        refine runs_cond rfl (fun h4 => ?_) (fun h4 => ?_)
        · try simp only [decide_eq_true_eq, decide_eq_false_iff_not, Bool.not_eq_true', Bool.not_eq_false', Bool.not_true, Bool.not_false, Int.not_lt, Int.not_le, Bool.and_eq_true, Bool.or_eq_true, Bool.and_eq_false_iff, Bool.or_eq_false_iff, Bool.false_eq_true, Bool.true_eq_false, not_true_eq_false, not_false_eq_true, decide_true, decide_false, true_and, and_true, false_and, and_false, true_or, or_true, false_or, or_false, Bool.true_and, Bool.false_and, Bool.and_true, Bool.and_false, Bool.true_or, Bool.false_or, Bool.or_true, Bool.or_false, Int.reduceEq, Int.reduceNe, Int.reduceLT, Int.reduceLE, Int.toNat_natCast, toNat_add1, fcode, fat, RS.fail] at h4
          all_goals try (first | contradiction | (exfalso; omega))
          all_goals (
            refine runs_seq ?_
            refine runs_keep [] rfl ?_
            refine runs_region ?_
            refine ops_fl rfl rfl rfl (fl_assign rfl rfl ?_)
            refine ops_nil ?_
            refine seq_normal ?_
            refine runs_ret ?_
            refine seq_ret ?_
            refine fin_ret ?_
            refine fin_od ⟨_, _, rfl, rfl, rfl⟩ rfl ([0]) ([rdO s (RS.fail (tokR s p).2.1 ⟨p, none⟩)]) rfl rfl rfl ?_ ?_
            · repeat (first | exact .nil | refine .cons rfl (.cells rfl (FitL.rfl _)) ?_ | refine .cons rfl .row ?_ | refine .cons rfl .mapI ?_ | refine .cons rfl .nnrow ?_ | refine .cons rfl .nrow ?_ | refine .cons rfl .dead ?_ | refine .cons rfl (.cells rfl ?_) ?_ | refine .cons (by first | exact .refl _ | exact .toD rfl | exact .nilD) ?_)
            · unfold nextR; simp only; rw [if_pos (by exact h2)]; exact ⟨rfl, rfl⟩
          )
        · try simp only [decide_eq_true_eq, decide_eq_false_iff_not, Bool.not_eq_true', Bool.not_eq_false', Bool.not_true, Bool.not_false, Int.not_lt, Int.not_le, Bool.and_eq_true, Bool.or_eq_true, Bool.and_eq_false_iff, Bool.or_eq_false_iff, Bool.false_eq_true, Bool.true_eq_false, not_true_eq_false, not_false_eq_true, decide_true, decide_false, true_and, and_true, false_and, and_false, true_or, or_true, false_or, or_false, Bool.true_and, Bool.false_and, Bool.and_true, Bool.and_false, Bool.true_or, Bool.false_or, Bool.or_true, Bool.or_false, Int.reduceEq, Int.reduceNe, Int.reduceLT, Int.reduceLE, Int.toNat_natCast, toNat_add1, fcode, fat, RS.fail] at h4
          all_goals try (first | contradiction | (exfalso; omega))
          all_goals (
            refine runs_skip ?_
            refine seq_normal ?_
            refine runs_seq ?_
            refine runs_keep [4, 3, 0] rfl ?_
            refine runs_region ?_
            refine ops_fl rfl rfl rfl (fl_move rfl rfl ?_)
            refine ops_fl rfl rfl rfl (fl_move rfl rfl ?_)
            refine ops_fl rfl rfl rfl (fl_move rfl rfl ?_)
            refine ops_fl rfl rfl rfl (fl_len_s ut9 rfl rfl ?_)
            refine ops_fl rfl rfl rfl (fl_add rfl rfl rfl (by omega) ?_)
            first
            | refine ops_fl rfl rfl rfl (fl_nil_blk rfl rfl ?_)
            | refine ops_fl rfl rfl rfl (fl_nil_cp rfl rfl ?_)
            first
            | refine ops_fl rfl rfl rfl (fl_field_blk ti53 rfl rfl rfl rfl ?_)
            | refine ops_fl rfl rfl rfl (fl_field_cp ti53 rfl rfl rfl rfl rfl ?_)
            refine ops_cons rfl (op_store ti3 rfl rfl rfl rfl rfl rfl rfl rfl rfl rfl rfl ?_)
            refine ops_nil ?_
            refine seq_normal ?_
            refine runs_seq ?_
            refine runs_keep [3] rfl ?_
            refine runs_region ?_
            refine ops_fl rfl rfl rfl (fl_move rfl rfl ?_)
            refine ops_fl rfl rfl rfl (fl_assign rfl rfl ?_)
            refine ops_nil ?_
            refine seq_normal ?_
            refine runs_ret ?_
            refine fin_ret ?_
            refine fin_od ⟨_, _, rfl, rfl, rfl⟩ rfl ([0]) ([rdO s ⟨(tokR s p).2.1 + (tokR s p).1.size, none⟩]) rfl rfl rfl ?_ ?_
            · repeat (first | exact .nil | refine .cons rfl (.cells rfl (FitL.rfl _)) ?_ | refine .cons rfl .row ?_ | refine .cons rfl .mapI ?_ | refine .cons rfl .nnrow ?_ | refine .cons rfl .nrow ?_ | refine .cons rfl .dead ?_ | refine .cons rfl (.cells rfl ?_) ?_ | refine .cons (by first | exact .refl _ | exact .toD rfl | exact .nilD) ?_)
            · unfold nextR; simp only; rw [if_neg (by rintro (h | h); exact absurd h (by simpa using h2.1); exact h2.2 h)]; exact ⟨rfl, rfl⟩
          )
      )
  | some a =>
    refine triS_of_runs Tryd.func43 rfl Tryd.ntmps43 (rs := [.tmp 2]) rfl rfl rfl 1 rfl ?_
    refine runs_seq ?_
    refine runs_region ?_
    refine ops_fl rfl rfl rfl (fl_assign rfl rfl ?_)
    refine ops_nil ?_
    refine seq_normal ?_
    refine runs_seq ?_
    refine runs_region ?_
    refine ops_fl rfl rfl rfl (fl_move rfl rfl ?_)
    refine ops_cons rfl (op_callo ca41 rfl rfl rfl rfl (token_spec s p (fcode (some a)) (fat (some a)) hs hp) [0] (.cons rfl (by first | exact .cells rfl (FitL.rfl _) | exact .row | exact .nrow | exact .mapI | exact .nnrow | (refine .cells rfl ?_; repeat (first | exact .nil | refine .cons (by first | exact .refl _ | exact .toD rfl | exact .nil rfl | exact .nilD) ?_))) .nil) rfl rfl rfl rfl (.cons (by first | exact .refl _ | exact .toD rfl | exact .nil rfl | exact .nilD | exact .dle rfl (by repeat' (first | exact DLe.refl _ | exact DLe.nil | exact DLeL.nil | exact DLeLL.nil | apply DLe.agg | apply DLe.tup | apply DLe.sl | apply DLe.cp | apply DLeL.cons | apply DLeLL.cons))) .nil) (fun s ob' hq => ?_) (fun s ob' hq => ?_))
    rotate_left
    · first | exact hq.elim | cases hq.1
    obtain ⟨hq1, rfl⟩ := hq
    cases hq1
    refine ⟨_, _, _, _, _, rfl, rfl, rfl, rfl, rfl, ?_⟩
    refine ops_fl rfl rfl rfl (fl_move rfl rfl ?_)
    first
    | refine ops_fl rfl rfl rfl (fl_extract rfl rfl rfl ?_)
    | refine ops_fl rfl rfl rfl (fl_extract_d rfl rfl rfl ?_)
    first
    | refine ops_fl rfl rfl rfl (fl_extract rfl rfl rfl ?_)
    | refine ops_fl rfl rfl rfl (fl_extract_d rfl rfl rfl ?_)
    first
    | refine ops_fl rfl rfl rfl (fl_extract rfl rfl rfl ?_)
    | refine ops_fl rfl rfl rfl (fl_extract_d rfl rfl rfl ?_)
    refine ops_fl rfl rfl rfl (fl_assign rfl rfl ?_)
    refine ops_fl rfl rfl rfl (fl_assign rfl rfl ?_)
    refine ops_fl rfl rfl rfl (fl_assign rfl rfl ?_)
    refine ops_nil ?_
    refine seq_normal ?_
    refine runs_seq ?_
    refine runs_seq ?_
    refine runs_keep [5, 4, 3, 0] rfl ?_
    refine runs_region ?_
    refine ops_fl rfl rfl rfl (fl_move rfl rfl ?_)
    refine ops_fl rfl rfl rfl (fl_not rfl rfl ?_)
    refine ops_fl rfl rfl rfl (fl_move rfl rfl ?_)
    apply ops_or (yt := 16) (d := 14) 2 rfl rfl rfl (.none rfl) rfl rfl
    case h1 =>
      intro hb4 hK
      have hc := hb4; try simp only [decide_eq_true_eq, decide_eq_false_iff_not, Bool.not_eq_true', Bool.not_eq_false', Bool.not_true, Bool.not_false, Int.not_lt, Int.not_le, Bool.and_eq_true, Bool.or_eq_true, Bool.and_eq_false_iff, Bool.or_eq_false_iff, Bool.false_eq_true, Bool.true_eq_false, not_true_eq_false, not_false_eq_true, decide_true, decide_false, true_and, and_true, false_and, and_false, true_or, or_true, false_or, or_false, Bool.true_and, Bool.false_and, Bool.and_true, Bool.and_false, Bool.true_or, Bool.false_or, Bool.or_true, Bool.or_false, Int.reduceEq, Int.reduceNe, Int.reduceLT, Int.reduceLE, Int.toNat_natCast, toNat_add1, fcode, fat, RS.fail] at hc
      all_goals try (first | contradiction | (exfalso; omega))
      all_goals (
        refine ops_gyes rfl rfl rfl hb4 ?_
        refine ops_fl rfl rfl rfl (fl_move rfl rfl ?_)
        refine ops_gyes rfl rfl rfl hb4 ?_
        refine ops_fl rfl rfl rfl (fl_seql rfl rfl rfl ?_)
        exact hK [_, _] rfl rfl)
    case h2 =>
      intro hb4 hK
      refine ops_gno rfl rfl rfl hb4 rfl rfl ?_
      refine ops_gno rfl rfl rfl hb4 rfl rfl ?_
      exact hK [_, _] rfl
    refine ops_nil ?_
    refine seq_normal ?_
    refine runs_cond rfl (fun h2 => ?_) (fun h2 => ?_)
    · try simp only [decide_eq_true_eq, decide_eq_false_iff_not, Bool.not_eq_true', Bool.not_eq_false', Bool.not_true, Bool.not_false, Int.not_lt, Int.not_le, Bool.and_eq_true, Bool.or_eq_true, Bool.and_eq_false_iff, Bool.or_eq_false_iff, Bool.false_eq_true, Bool.true_eq_false, not_true_eq_false, not_false_eq_true, decide_true, decide_false, true_and, and_true, false_and, and_false, true_or, or_true, false_or, or_false, Bool.true_and, Bool.false_and, Bool.and_true, Bool.and_false, Bool.true_or, Bool.false_or, Bool.or_true, Bool.or_false, Int.reduceEq, Int.reduceNe, Int.reduceLT, Int.reduceLE, Int.toNat_natCast, toNat_add1, fcode, fat, RS.fail] at h2
      all_goals try (first | contradiction | (exfalso; omega))
      all_goals (
        refine runs_keep [4, 3, 0] rfl ?_
        refine runs_region ?_
        refine ops_fl rfl rfl rfl (fl_move rfl rfl ?_)
        refine ops_fl rfl rfl rfl (fl_move rfl rfl ?_)
        refine ops_cons rfl (op_callo ca44 rfl rfl rfl rfl (fail_spec s (tokR s p).2.1 ⟨p, some a⟩) [0] (.cons rfl (by first | exact .cells rfl (FitL.rfl _) | exact .row | exact .nrow | exact .mapI | exact .nnrow | (refine .cells rfl ?_; repeat (first | exact .nil | refine .cons (by first | exact .refl _ | exact .toD rfl | exact .nil rfl | exact .nilD) ?_))) .nil) rfl rfl rfl rfl (.cons (by first | exact .refl _ | exact .toD rfl | exact .nil rfl | exact .nilD | exact .dle rfl (by repeat' (first | exact DLe.refl _ | exact DLe.nil | exact DLeL.nil | exact DLeLL.nil | apply DLe.agg | apply DLe.tup | apply DLe.sl | apply DLe.cp | apply DLeL.cons | apply DLeLL.cons))) (.cons (by first | exact .refl _ | exact .toD rfl | exact .nil rfl | exact .nilD | exact .dle rfl (by repeat' (first | exact DLe.refl _ | exact DLe.nil | exact DLeL.nil | exact DLeLL.nil | apply DLe.agg | apply DLe.tup | apply DLe.sl | apply DLe.cp | apply DLeL.cons | apply DLeLL.cons))) .nil)) (fun s ob' hq => ?_) (fun s ob' hq => ?_))
        rotate_left
        · first | exact hq.elim | cases hq.1
        obtain ⟨hq1, rfl⟩ := hq
        cases hq1
        refine ⟨_, _, _, _, _, rfl, rfl, rfl, rfl, rfl, ?_⟩
        refine ops_nil ?_
        refine seq_normal ?_
        refine runs_seq ?_
        refine runs_seq ?_
        refine runs_region ?_
        refine ops_fl rfl rfl rfl (fl_move rfl rfl ?_)
        first
        | refine ops_fl rfl rfl rfl (fl_nil_blk rfl rfl ?_)
        | refine ops_fl rfl rfl rfl (fl_nil_cp rfl rfl ?_)
        first
        | refine ops_fl rfl rfl rfl (fl_field_blk ti53 rfl rfl rfl rfl ?_)
        | refine ops_fl rfl rfl rfl (fl_field_cp ti53 rfl rfl rfl rfl rfl ?_)
        first
        | refine ops_fl rfl rfl rfl (fl_field_blk ti33 rfl rfl rfl rfl ?_)
        | refine ops_fl rfl rfl rfl (fl_field_cp ti33 rfl rfl rfl rfl rfl ?_)
        first
        | refine ops_fl rfl rfl rfl (fl_load_blk ti3 rfl rfl rfl rfl rfl rfl rfl ?_)
        | refine ops_fl rfl rfl rfl (fl_load_cp ti3 rfl rfl rfl rfl rfl rfl ?_)
        refine ops_fl rfl rfl rfl (fl_neq rfl rfl rfl ?_)
        refine ops_nil ?_
        refine seq_normal ?_
        refine runs_cond rfl (fun h4 => ?_) (fun h4 => ?_)
        · try simp only [decide_eq_true_eq, decide_eq_false_iff_not, Bool.not_eq_true', Bool.not_eq_false', Bool.not_true, Bool.not_false, Int.not_lt, Int.not_le, Bool.and_eq_true, Bool.or_eq_true, Bool.and_eq_false_iff, Bool.or_eq_false_iff, Bool.false_eq_true, Bool.true_eq_false, not_true_eq_false, not_false_eq_true, decide_true, decide_false, true_and, and_true, false_and, and_false, true_or, or_true, false_or, or_false, Bool.true_and, Bool.false_and, Bool.and_true, Bool.and_false, Bool.true_or, Bool.false_or, Bool.or_true, Bool.or_false, Int.reduceEq, Int.reduceNe, Int.reduceLT, Int.reduceLE, Int.toNat_natCast, toNat_add1, fcode, fat, RS.fail] at h4
          all_goals try (first | contradiction | (exfalso; omega))
          all_goals (
            refine runs_seq ?_
            refine runs_keep [] rfl ?_
            refine runs_region ?_
            refine ops_fl rfl rfl rfl (fl_assign rfl rfl ?_)
            refine ops_nil ?_
            refine seq_normal ?_
            refine runs_ret ?_
            refine seq_ret ?_
            refine fin_ret ?_
            refine fin_od ⟨_, _, rfl, rfl, rfl⟩ rfl ([0]) ([rdO s (RS.fail (tokR s p).2.1 ⟨p, some a⟩)]) rfl rfl rfl ?_ ?_
            · repeat (first | exact .nil | refine .cons rfl (.cells rfl (FitL.rfl _)) ?_ | refine .cons rfl .row ?_ | refine .cons rfl .mapI ?_ | refine .cons rfl .nnrow ?_ | refine .cons rfl .nrow ?_ | refine .cons rfl .dead ?_ | refine .cons rfl (.cells rfl ?_) ?_ | refine .cons (by first | exact .refl _ | exact .toD rfl | exact .nilD) ?_)
            · unfold nextR; simp only; rw [if_pos (by exact h2)]; exact ⟨rfl, rfl⟩
          )
        · try simp only [decide_eq_true_eq, decide_eq_false_iff_not, Bool.not_eq_true', Bool.not_eq_false', Bool.not_true, Bool.not_false, Int.not_lt, Int.not_le, Bool.and_eq_true, Bool.or_eq_true, Bool.and_eq_false_iff, Bool.or_eq_false_iff, Bool.false_eq_true, Bool.true_eq_false, not_true_eq_false, not_false_eq_true, decide_true, decide_false, true_and, and_true, false_and, and_false, true_or, or_true, false_or, or_false, Bool.true_and, Bool.false_and, Bool.and_true, Bool.and_false, Bool.true_or, Bool.false_or, Bool.or_true, Bool.or_false, Int.reduceEq, Int.reduceNe, Int.reduceLT, Int.reduceLE, Int.toNat_natCast, toNat_add1, fcode, fat, RS.fail] at h4
          all_goals try (first | contradiction | (exfalso; omega))
          all_goals (
            refine runs_skip ?_
            refine seq_normal ?_
            refine runs_seq ?_
            refine runs_keep [4, 3, 0] rfl ?_
            refine runs_region ?_
            refine ops_fl rfl rfl rfl (fl_move rfl rfl ?_)
            refine ops_fl rfl rfl rfl (fl_move rfl rfl ?_)
            refine ops_fl rfl rfl rfl (fl_move rfl rfl ?_)
            refine ops_fl rfl rfl rfl (fl_len_s ut9 rfl rfl ?_)
            refine ops_fl rfl rfl rfl (fl_add rfl rfl rfl (by omega) ?_)
            first
            | refine ops_fl rfl rfl rfl (fl_nil_blk rfl rfl ?_)
            | refine ops_fl rfl rfl rfl (fl_nil_cp rfl rfl ?_)
            first
            | refine ops_fl rfl rfl rfl (fl_field_blk ti53 rfl rfl rfl rfl ?_)
            | refine ops_fl rfl rfl rfl (fl_field_cp ti53 rfl rfl rfl rfl rfl ?_)
            refine ops_cons rfl (op_store ti3 rfl rfl rfl rfl rfl rfl rfl rfl rfl rfl rfl ?_)
            refine ops_nil ?_
            refine seq_normal ?_
            refine runs_seq ?_
            refine runs_keep [3] rfl ?_
            refine runs_region ?_
            refine ops_fl rfl rfl rfl (fl_move rfl rfl ?_)
            refine ops_fl rfl rfl rfl (fl_assign rfl rfl ?_)
            refine ops_nil ?_
            refine seq_normal ?_
            refine runs_ret ?_
            refine fin_ret ?_
            refine fin_d1 rfl rfl ?_
            rfl
          )
      )
    · try simp only [decide_eq_true_eq, decide_eq_false_iff_not, Bool.not_eq_true', Bool.not_eq_false', Bool.not_true, Bool.not_false, Int.not_lt, Int.not_le, Bool.and_eq_true, Bool.or_eq_true, Bool.and_eq_false_iff, Bool.or_eq_false_iff, Bool.false_eq_true, Bool.true_eq_false, not_true_eq_false, not_false_eq_true, decide_true, decide_false, true_and, and_true, false_and, and_false, true_or, or_true, false_or, or_false, Bool.true_and, Bool.false_and, Bool.and_true, Bool.and_false, Bool.true_or, Bool.false_or, Bool.or_true, Bool.or_false, Int.reduceEq, Int.reduceNe, Int.reduceLT, Int.reduceLE, Int.toNat_natCast, toNat_add1, fcode, fat, RS.fail] at h2
      all_goals try (first | contradiction | (exfalso; omega))
      all_goals (
        refine runs_skip ?_
        refine seq_normal ?_
        refine runs_seq ?_
        refine runs_seq ?_
        refine runs_keep [4, 3, 0] rfl ?_
        refine runs_region ?_
        refine ops_fl rfl rfl rfl (fl_move rfl rfl ?_)
        first
        | refine ops_fl rfl rfl rfl (fl_nil_blk rfl rfl ?_)
        | refine ops_fl rfl rfl rfl (fl_nil_cp rfl rfl ?_)
        first
        | refine ops_fl rfl rfl rfl (fl_field_blk ti53 rfl rfl rfl rfl ?_)
        | refine ops_fl rfl rfl rfl (fl_field_cp ti53 rfl rfl rfl rfl rfl ?_)
        first
        | refine ops_fl rfl rfl rfl (fl_field_blk ti33 rfl rfl rfl rfl ?_)
        | refine ops_fl rfl rfl rfl (fl_field_cp ti33 rfl rfl rfl rfl rfl ?_)
        first
        | refine ops_fl rfl rfl rfl (fl_load_blk ti3 rfl rfl rfl rfl rfl rfl rfl ?_)
        | refine ops_fl rfl rfl rfl (fl_load_cp ti3 rfl rfl rfl rfl rfl rfl ?_)
        refine ops_fl rfl rfl rfl (fl_neq rfl rfl rfl ?_)
        refine ops_nil ?_
        refine seq_normal ?_
        refine runs_cond rfl (fun h4 => ?_) (fun h4 => ?_)
        · try simp only [decide_eq_true_eq, decide_eq_false_iff_not, Bool.not_eq_true', Bool.not_eq_false', Bool.not_true, Bool.not_false, Int.not_lt, Int.not_le, Bool.and_eq_true, Bool.or_eq_true, Bool.and_eq_false_iff, Bool.or_eq_false_iff, Bool.false_eq_true, Bool.true_eq_false, not_true_eq_false, not_false_eq_true, decide_true, decide_false, true_and, and_true, false_and, and_false, true_or, or_true, false_or, or_false, Bool.true_and, Bool.false_and, Bool.and_true, Bool.and_false, Bool.true_or, Bool.false_or, Bool.or_true, Bool.or_false, Int.reduceEq, Int.reduceNe, Int.reduceLT, Int.reduceLE, Int.toNat_natCast, toNat_add1, fcode, fat, RS.fail] at h4
          all_goals try (first | contradiction | (exfalso; omega))
          all_goals (
            refine runs_seq ?_
            refine runs_keep [] rfl ?_
            refine runs_region ?_
            refine ops_fl rfl rfl rfl (fl_assign rfl rfl ?_)
            refine ops_nil ?_
            refine seq_normal ?_
            refine runs_ret ?_
            refine seq_ret ?_
            refine fin_ret ?_
            refine fin_od ⟨_, _, rfl, rfl, rfl⟩ rfl ([0]) ([rdO s ⟨p, some a⟩]) rfl rfl rfl ?_ ?_
            · repeat (first | exact .nil | refine .cons rfl (.cells rfl (FitL.rfl _)) ?_ | refine .cons rfl .row ?_ | refine .cons rfl .mapI ?_ | refine .cons rfl .nnrow ?_ | refine .cons rfl .nrow ?_ | refine .cons rfl .dead ?_ | refine .cons rfl (.cells rfl ?_) ?_ | refine .cons (by first | exact .refl _ | exact .toD rfl | exact .nilD) ?_)
            · unfold nextR; simp only; rw [if_neg (by rintro (h | h); exact absurd h (by simpa using h2.1); exact h2.2 h)]; exact ⟨rfl, rfl⟩
          )
        · try simp only [decide_eq_true_eq, decide_eq_false_iff_not, Bool.not_eq_true', Bool.not_eq_false', Bool.not_true, Bool.not_false, Int.not_lt, Int.not_le, Bool.and_eq_true, Bool.or_eq_true, Bool.and_eq_false_iff, Bool.or_eq_false_iff, Bool.false_eq_true, Bool.true_eq_false, not_true_eq_false, not_false_eq_true, decide_true, decide_false, true_and, and_true, false_and, and_false, true_or, or_true, false_or, or_false, Bool.true_and, Bool.false_and, Bool.and_true, Bool.and_false, Bool.true_or, Bool.false_or, Bool.or_true, Bool.or_false, Int.reduceEq, Int.reduceNe, Int.reduceLT, Int.reduceLE, Int.toNat_natCast, toNat_add1, fcode, fat, RS.fail] at h4
          all_goals try (first | contradiction | (exfalso; omega))
          all_goals (
            refine runs_skip ?_
            refine seq_normal ?_
            refine runs_seq ?_
            refine runs_keep [4, 3, 0] rfl ?_
            refine runs_region ?_
            refine ops_fl rfl rfl rfl (fl_move rfl rfl ?_)
            refine ops_fl rfl rfl rfl (fl_move rfl rfl ?_)
            refine ops_fl rfl rfl rfl (fl_move rfl rfl ?_)
            refine ops_fl rfl rfl rfl (fl_len_s ut9 rfl rfl ?_)
            refine ops_fl rfl rfl rfl (fl_add rfl rfl rfl (by omega) ?_)
            first
            | refine ops_fl rfl rfl rfl (fl_nil_blk rfl rfl ?_)
            | refine ops_fl rfl rfl rfl (fl_nil_cp rfl rfl ?_)
            first
            | refine ops_fl rfl rfl rfl (fl_field_blk ti53 rfl rfl rfl rfl ?_)
            | refine ops_fl rfl rfl rfl (fl_field_cp ti53 rfl rfl rfl rfl rfl ?_)
            refine ops_cons rfl (op_store ti3 rfl rfl rfl rfl rfl rfl rfl rfl rfl rfl rfl ?_)
            refine ops_nil ?_
            refine seq_normal ?_
            refine runs_seq ?_
            refine runs_keep [3] rfl ?_
            refine runs_region ?_
            refine ops_fl rfl rfl rfl (fl_move rfl rfl ?_)
            refine ops_fl rfl rfl rfl (fl_assign rfl rfl ?_)
            refine ops_nil ?_
            refine seq_normal ?_
            refine runs_ret ?_
            refine fin_ret ?_
            refine fin_d1 rfl rfl ?_
            rfl
          )
      )

theorem take_spec (s t : ByteArray) (r : RS) (hs : s.size ≤ 1099511627776) (hp : r.p ≤ s.size) :
    Tri Tryd.prog gl 45 [rdO s r] [.blk 0 0, .d (.v (.string t))] fun out ob' => out = .ret (.d (.tup [])) ∧ ob' = [rdO s (takeR s t r)] := by
  have hat := tokR_at (s := s) hp
  obtain ⟨p, f⟩ := r
  simp only at hat hp
  cases f with
  | none =>
    refine triS_of_runs Tryd.func45 rfl Tryd.ntmps45 (rs := []) rfl rfl rfl 1 rfl ?_
    refine runs_seq ?_
    refine runs_region ?_
    refine ops_fl rfl rfl rfl (fl_move rfl rfl ?_)
    refine ops_cons rfl (op_callo ca41 rfl rfl rfl rfl (token_spec s p (fcode none) (fat none) hs hp) [0] (.cons rfl (by first | exact .cells rfl (FitL.rfl _) | exact .row | exact .nrow | exact .mapI | exact .nnrow | (refine .cells rfl ?_; repeat (first | exact .nil | refine .cons (by first | exact .refl _ | exact .toD rfl | exact .nil rfl | exact .nilD) ?_))) .nil) rfl rfl rfl rfl (.cons (by first | exact .refl _ | exact .toD rfl | exact .nil rfl | exact .nilD | exact .dle rfl (by repeat' (first | exact DLe.refl _ | exact DLe.nil | exact DLeL.nil | exact DLeLL.nil | apply DLe.agg | apply DLe.tup | apply DLe.sl | apply DLe.cp | apply DLeL.cons | apply DLeLL.cons))) .nil) (fun s ob' hq => ?_) (fun s ob' hq => ?_))
    rotate_left
    · first | exact hq.elim | cases hq.1
    obtain ⟨hq1, rfl⟩ := hq
    cases hq1
    refine ⟨_, _, _, _, _, rfl, rfl, rfl, rfl, rfl, ?_⟩
    refine ops_fl rfl rfl rfl (fl_move rfl rfl ?_)
    first
    | refine ops_fl rfl rfl rfl (fl_extract rfl rfl rfl ?_)
    | refine ops_fl rfl rfl rfl (fl_extract_d rfl rfl rfl ?_)
    first
    | refine ops_fl rfl rfl rfl (fl_extract rfl rfl rfl ?_)
    | refine ops_fl rfl rfl rfl (fl_extract_d rfl rfl rfl ?_)
    first
    | refine ops_fl rfl rfl rfl (fl_extract rfl rfl rfl ?_)
    | refine ops_fl rfl rfl rfl (fl_extract_d rfl rfl rfl ?_)
    refine ops_fl rfl rfl rfl (fl_assign rfl rfl ?_)
    refine ops_fl rfl rfl rfl (fl_assign rfl rfl ?_)
    refine ops_fl rfl rfl rfl (fl_assign rfl rfl ?_)
    refine ops_nil ?_
    refine seq_normal ?_
    refine runs_seq ?_
    refine runs_seq ?_
    refine runs_keep [6, 5, 4, 0, 1] rfl ?_
    refine runs_region ?_
    refine ops_fl rfl rfl rfl (fl_move rfl rfl ?_)
    refine ops_fl rfl rfl rfl (fl_not rfl rfl ?_)
    refine ops_fl rfl rfl rfl (fl_move rfl rfl ?_)
    apply ops_or (yt := 18) (d := 15) 3 rfl rfl rfl (.none rfl) rfl rfl
    case h1 =>
      intro hb4 hK
      have hc := hb4; try simp only [decide_eq_true_eq, decide_eq_false_iff_not, Bool.not_eq_true', Bool.not_eq_false', Bool.not_true, Bool.not_false, Int.not_lt, Int.not_le, Bool.and_eq_true, Bool.or_eq_true, Bool.and_eq_false_iff, Bool.or_eq_false_iff, Bool.false_eq_true, Bool.true_eq_false, not_true_eq_false, not_false_eq_true, decide_true, decide_false, true_and, and_true, false_and, and_false, true_or, or_true, false_or, or_false, Bool.true_and, Bool.false_and, Bool.and_true, Bool.and_false, Bool.true_or, Bool.false_or, Bool.or_true, Bool.or_false, Int.reduceEq, Int.reduceNe, Int.reduceLT, Int.reduceLE, Int.toNat_natCast, toNat_add1, fcode, fat, RS.fail] at hc
      all_goals try (first | contradiction | (exfalso; omega))
      all_goals (
        refine ops_gyes rfl rfl rfl hb4 ?_
        refine ops_fl rfl rfl rfl (fl_move rfl rfl ?_)
        refine ops_gyes rfl rfl rfl hb4 ?_
        refine ops_fl rfl rfl rfl (fl_move rfl rfl ?_)
        refine ops_gyes rfl rfl rfl hb4 ?_
        refine ops_fl rfl rfl rfl (fl_sneq rfl rfl rfl ?_)
        exact hK [_, _, _] rfl rfl)
    case h2 =>
      intro hb4 hK
      refine ops_gno rfl rfl rfl hb4 rfl rfl ?_
      refine ops_gno rfl rfl rfl hb4 rfl rfl ?_
      refine ops_gno rfl rfl rfl hb4 rfl rfl ?_
      exact hK [_, _, _] rfl
    refine ops_nil ?_
    refine seq_normal ?_
    refine runs_cond rfl (fun h1 => ?_) (fun h1 => ?_)
    · try simp only [decide_eq_true_eq, decide_eq_false_iff_not, Bool.not_eq_true', Bool.not_eq_false', Bool.not_true, Bool.not_false, Int.not_lt, Int.not_le, Bool.and_eq_true, Bool.or_eq_true, Bool.and_eq_false_iff, Bool.or_eq_false_iff, Bool.false_eq_true, Bool.true_eq_false, not_true_eq_false, not_false_eq_true, decide_true, decide_false, true_and, and_true, false_and, and_false, true_or, or_true, false_or, or_false, Bool.true_and, Bool.false_and, Bool.and_true, Bool.and_false, Bool.true_or, Bool.false_or, Bool.or_true, Bool.or_false, Int.reduceEq, Int.reduceNe, Int.reduceLT, Int.reduceLE, Int.toNat_natCast, toNat_add1, fcode, fat, RS.fail] at h1
      all_goals try (first | contradiction | (exfalso; omega))
      all_goals (
        refine runs_keep [5, 4, 0] rfl ?_
        refine runs_region ?_
        refine ops_fl rfl rfl rfl (fl_move rfl rfl ?_)
        refine ops_fl rfl rfl rfl (fl_move rfl rfl ?_)
        refine ops_cons rfl (op_callo ca44 rfl rfl rfl rfl (fail_spec s (tokR s p).2.1 ⟨p, none⟩) [0] (.cons rfl (by first | exact .cells rfl (FitL.rfl _) | exact .row | exact .nrow | exact .mapI | exact .nnrow | (refine .cells rfl ?_; repeat (first | exact .nil | refine .cons (by first | exact .refl _ | exact .toD rfl | exact .nil rfl | exact .nilD) ?_))) .nil) rfl rfl rfl rfl (.cons (by first | exact .refl _ | exact .toD rfl | exact .nil rfl | exact .nilD | exact .dle rfl (by repeat' (first | exact DLe.refl _ | exact DLe.nil | exact DLeL.nil | exact DLeLL.nil | apply DLe.agg | apply DLe.tup | apply DLe.sl | apply DLe.cp | apply DLeL.cons | apply DLeLL.cons))) (.cons (by first | exact .refl _ | exact .toD rfl | exact .nil rfl | exact .nilD | exact .dle rfl (by repeat' (first | exact DLe.refl _ | exact DLe.nil | exact DLeL.nil | exact DLeLL.nil | apply DLe.agg | apply DLe.tup | apply DLe.sl | apply DLe.cp | apply DLeL.cons | apply DLeLL.cons))) .nil)) (fun s ob' hq => ?_) (fun s ob' hq => ?_))
        rotate_left
        · first | exact hq.elim | cases hq.1
        obtain ⟨hq1, rfl⟩ := hq
        cases hq1
        refine ⟨_, _, _, _, _, rfl, rfl, rfl, rfl, rfl, ?_⟩
        refine ops_nil ?_
        refine seq_normal ?_
        refine runs_seq ?_
        refine runs_region ?_
        refine ops_fl rfl rfl rfl (fl_move rfl rfl ?_)
        first
        | refine ops_fl rfl rfl rfl (fl_nil_blk rfl rfl ?_)
        | refine ops_fl rfl rfl rfl (fl_nil_cp rfl rfl ?_)
        first
        | refine ops_fl rfl rfl rfl (fl_field_blk ti53 rfl rfl rfl rfl ?_)
        | refine ops_fl rfl rfl rfl (fl_field_cp ti53 rfl rfl rfl rfl rfl ?_)
        first
        | refine ops_fl rfl rfl rfl (fl_field_blk ti33 rfl rfl rfl rfl ?_)
        | refine ops_fl rfl rfl rfl (fl_field_cp ti33 rfl rfl rfl rfl rfl ?_)
        first
        | refine ops_fl rfl rfl rfl (fl_load_blk ti3 rfl rfl rfl rfl rfl rfl rfl ?_)
        | refine ops_fl rfl rfl rfl (fl_load_cp ti3 rfl rfl rfl rfl rfl rfl ?_)
        refine ops_fl rfl rfl rfl (fl_eql rfl rfl rfl ?_)
        refine ops_nil ?_
        refine seq_normal ?_
        refine runs_cond rfl (fun h3 => ?_) (fun h3 => ?_)
        · try simp only [decide_eq_true_eq, decide_eq_false_iff_not, Bool.not_eq_true', Bool.not_eq_false', Bool.not_true, Bool.not_false, Int.not_lt, Int.not_le, Bool.and_eq_true, Bool.or_eq_true, Bool.and_eq_false_iff, Bool.or_eq_false_iff, Bool.false_eq_true, Bool.true_eq_false, not_true_eq_false, not_false_eq_true, decide_true, decide_false, true_and, and_true, false_and, and_false, true_or, or_true, false_or, or_false, Bool.true_and, Bool.false_and, Bool.and_true, Bool.and_false, Bool.true_or, Bool.false_or, Bool.or_true, Bool.or_false, Int.reduceEq, Int.reduceNe, Int.reduceLT, Int.reduceLE, Int.toNat_natCast, toNat_add1, fcode, fat, RS.fail] at h3
          all_goals try (first | contradiction | (exfalso; omega))
          all_goals (
            refine runs_keep [5, 4, 0] rfl ?_
            refine runs_region ?_
            refine ops_fl rfl rfl rfl (fl_move rfl rfl ?_)
            refine ops_fl rfl rfl rfl (fl_move rfl rfl ?_)
            refine ops_fl rfl rfl rfl (fl_move rfl rfl ?_)
            refine ops_fl rfl rfl rfl (fl_len_s ut9 rfl rfl ?_)
            refine ops_fl rfl rfl rfl (fl_add rfl rfl rfl (by omega) ?_)
            first
            | refine ops_fl rfl rfl rfl (fl_nil_blk rfl rfl ?_)
            | refine ops_fl rfl rfl rfl (fl_nil_cp rfl rfl ?_)
            first
            | refine ops_fl rfl rfl rfl (fl_field_blk ti53 rfl rfl rfl rfl ?_)
            | refine ops_fl rfl rfl rfl (fl_field_cp ti53 rfl rfl rfl rfl rfl ?_)
            refine ops_cons rfl (op_store ti3 rfl rfl rfl rfl rfl rfl rfl rfl rfl rfl rfl ?_)
            refine ops_nil ?_
            refine fin_normal ?_
            refine fin_d rfl rfl ?_
            rfl
          )
        · try simp only [decide_eq_true_eq, decide_eq_false_iff_not, Bool.not_eq_true', Bool.not_eq_false', Bool.not_true, Bool.not_false, Int.not_lt, Int.not_le, Bool.and_eq_true, Bool.or_eq_true, Bool.and_eq_false_iff, Bool.or_eq_false_iff, Bool.false_eq_true, Bool.true_eq_false, not_true_eq_false, not_false_eq_true, decide_true, decide_false, true_and, and_true, false_and, and_false, true_or, or_true, false_or, or_false, Bool.true_and, Bool.false_and, Bool.and_true, Bool.and_false, Bool.true_or, Bool.false_or, Bool.or_true, Bool.or_false, Int.reduceEq, Int.reduceNe, Int.reduceLT, Int.reduceLE, Int.toNat_natCast, toNat_add1, fcode, fat, RS.fail] at h3
          all_goals try (first | contradiction | (exfalso; omega))
          all_goals (
            refine runs_skip ?_
            refine fin_normal ?_
            refine fin_od (l := []) rfl rfl ([0]) ([rdO s (RS.fail (tokR s p).2.1 ⟨p, none⟩)]) rfl rfl rfl ?_ ?_
            · repeat (first | exact .nil | refine .cons rfl (.cells rfl (FitL.rfl _)) ?_ | refine .cons rfl .row ?_ | refine .cons rfl .mapI ?_ | refine .cons rfl .nnrow ?_ | refine .cons rfl .nrow ?_ | refine .cons rfl .dead ?_ | refine .cons rfl (.cells rfl ?_) ?_ | refine .cons (by first | exact .refl _ | exact .toD rfl | exact .nilD) ?_)
            · refine ⟨rfl, ?_⟩; unfold takeR; dsimp only; rw [if_pos (by exact h1)]
          )
      )
    · try simp only [decide_eq_true_eq, decide_eq_false_iff_not, Bool.not_eq_true', Bool.not_eq_false', Bool.not_true, Bool.not_false, Int.not_lt, Int.not_le, Bool.and_eq_true, Bool.or_eq_true, Bool.and_eq_false_iff, Bool.or_eq_false_iff, Bool.false_eq_true, Bool.true_eq_false, not_true_eq_false, not_false_eq_true, decide_true, decide_false, true_and, and_true, false_and, and_false, true_or, or_true, false_or, or_false, Bool.true_and, Bool.false_and, Bool.and_true, Bool.and_false, Bool.true_or, Bool.false_or, Bool.or_true, Bool.or_false, Int.reduceEq, Int.reduceNe, Int.reduceLT, Int.reduceLE, Int.toNat_natCast, toNat_add1, fcode, fat, RS.fail] at h1
      all_goals try (first | contradiction | (exfalso; omega))
      all_goals (
        refine runs_skip ?_
        refine seq_normal ?_
        refine runs_seq ?_
        refine runs_keep [5, 4, 0] rfl ?_
        refine runs_region ?_
        refine ops_fl rfl rfl rfl (fl_move rfl rfl ?_)
        first
        | refine ops_fl rfl rfl rfl (fl_nil_blk rfl rfl ?_)
        | refine ops_fl rfl rfl rfl (fl_nil_cp rfl rfl ?_)
        first
        | refine ops_fl rfl rfl rfl (fl_field_blk ti53 rfl rfl rfl rfl ?_)
        | refine ops_fl rfl rfl rfl (fl_field_cp ti53 rfl rfl rfl rfl rfl ?_)
        first
        | refine ops_fl rfl rfl rfl (fl_field_blk ti33 rfl rfl rfl rfl ?_)
        | refine ops_fl rfl rfl rfl (fl_field_cp ti33 rfl rfl rfl rfl rfl ?_)
        first
        | refine ops_fl rfl rfl rfl (fl_load_blk ti3 rfl rfl rfl rfl rfl rfl rfl ?_)
        | refine ops_fl rfl rfl rfl (fl_load_cp ti3 rfl rfl rfl rfl rfl rfl ?_)
        refine ops_fl rfl rfl rfl (fl_eql rfl rfl rfl ?_)
        refine ops_nil ?_
        refine seq_normal ?_
        refine runs_cond rfl (fun h3 => ?_) (fun h3 => ?_)
        · try simp only [decide_eq_true_eq, decide_eq_false_iff_not, Bool.not_eq_true', Bool.not_eq_false', Bool.not_true, Bool.not_false, Int.not_lt, Int.not_le, Bool.and_eq_true, Bool.or_eq_true, Bool.and_eq_false_iff, Bool.or_eq_false_iff, Bool.false_eq_true, Bool.true_eq_false, not_true_eq_false, not_false_eq_true, decide_true, decide_false, true_and, and_true, false_and, and_false, true_or, or_true, false_or, or_false, Bool.true_and, Bool.false_and, Bool.and_true, Bool.and_false, Bool.true_or, Bool.false_or, Bool.or_true, Bool.or_false, Int.reduceEq, Int.reduceNe, Int.reduceLT, Int.reduceLE, Int.toNat_natCast, toNat_add1, fcode, fat, RS.fail] at h3
          all_goals try (first | contradiction | (exfalso; omega))
          all_goals (
            refine runs_keep [5, 4, 0] rfl ?_
            refine runs_region ?_
            refine ops_fl rfl rfl rfl (fl_move rfl rfl ?_)
            refine ops_fl rfl rfl rfl (fl_move rfl rfl ?_)
            refine ops_fl rfl rfl rfl (fl_move rfl rfl ?_)
            refine ops_fl rfl rfl rfl (fl_len_s ut9 rfl rfl ?_)
            refine ops_fl rfl rfl rfl (fl_add rfl rfl rfl (by omega) ?_)
            first
            | refine ops_fl rfl rfl rfl (fl_nil_blk rfl rfl ?_)
            | refine ops_fl rfl rfl rfl (fl_nil_cp rfl rfl ?_)
            first
            | refine ops_fl rfl rfl rfl (fl_field_blk ti53 rfl rfl rfl rfl ?_)
            | refine ops_fl rfl rfl rfl (fl_field_cp ti53 rfl rfl rfl rfl rfl ?_)
            refine ops_cons rfl (op_store ti3 rfl rfl rfl rfl rfl rfl rfl rfl rfl rfl rfl ?_)
            refine ops_nil ?_
            refine fin_normal ?_
            refine fin_od (l := []) rfl rfl ([0]) ([rdO s ⟨(tokR s p).2.1 + (tokR s p).1.size, none⟩]) rfl rfl rfl ?_ ?_
            · repeat (first | exact .nil | refine .cons rfl (.cells rfl (FitL.rfl _)) ?_ | refine .cons rfl .row ?_ | refine .cons rfl .mapI ?_ | refine .cons rfl .nnrow ?_ | refine .cons rfl .nrow ?_ | refine .cons rfl .dead ?_ | refine .cons rfl (.cells rfl ?_) ?_ | refine .cons (by first | exact .refl _ | exact .toD rfl | exact .nilD) ?_)
            · refine ⟨rfl, ?_⟩; unfold takeR; dsimp only; rw [if_neg (by rintro (h | h); exact absurd h (by simpa using h1.1); exact h h1.2)]
          )
        · try simp only [decide_eq_true_eq, decide_eq_false_iff_not, Bool.not_eq_true', Bool.not_eq_false', Bool.not_true, Bool.not_false, Int.not_lt, Int.not_le, Bool.and_eq_true, Bool.or_eq_true, Bool.and_eq_false_iff, Bool.or_eq_false_iff, Bool.false_eq_true, Bool.true_eq_false, not_true_eq_false, not_false_eq_true, decide_true, decide_false, true_and, and_true, false_and, and_false, true_or, or_true, false_or, or_false, Bool.true_and, Bool.false_and, Bool.and_true, Bool.and_false, Bool.true_or, Bool.false_or, Bool.or_true, Bool.or_false, Int.reduceEq, Int.reduceNe, Int.reduceLT, Int.reduceLE, Int.toNat_natCast, toNat_add1, fcode, fat, RS.fail] at h3
          all_goals try (first | contradiction | (exfalso; omega))
          all_goals (
            refine runs_skip ?_
            refine fin_normal ?_
            refine fin_d rfl rfl ?_
            rfl
          )
      )
  | some a =>
    refine triS_of_runs Tryd.func45 rfl Tryd.ntmps45 (rs := []) rfl rfl rfl 1 rfl ?_
    refine runs_seq ?_
    refine runs_region ?_
    refine ops_fl rfl rfl rfl (fl_move rfl rfl ?_)
    refine ops_cons rfl (op_callo ca41 rfl rfl rfl rfl (token_spec s p (fcode (some a)) (fat (some a)) hs hp) [0] (.cons rfl (by first | exact .cells rfl (FitL.rfl _) | exact .row | exact .nrow | exact .mapI | exact .nnrow | (refine .cells rfl ?_; repeat (first | exact .nil | refine .cons (by first | exact .refl _ | exact .toD rfl | exact .nil rfl | exact .nilD) ?_))) .nil) rfl rfl rfl rfl (.cons (by first | exact .refl _ | exact .toD rfl | exact .nil rfl | exact .nilD | exact .dle rfl (by repeat' (first | exact DLe.refl _ | exact DLe.nil | exact DLeL.nil | exact DLeLL.nil | apply DLe.agg | apply DLe.tup | apply DLe.sl | apply DLe.cp | apply DLeL.cons | apply DLeLL.cons))) .nil) (fun s ob' hq => ?_) (fun s ob' hq => ?_))
    rotate_left
    · first | exact hq.elim | cases hq.1
    obtain ⟨hq1, rfl⟩ := hq
    cases hq1
    refine ⟨_, _, _, _, _, rfl, rfl, rfl, rfl, rfl, ?_⟩
    refine ops_fl rfl rfl rfl (fl_move rfl rfl ?_)
    first
    | refine ops_fl rfl rfl rfl (fl_extract rfl rfl rfl ?_)
    | refine ops_fl rfl rfl rfl (fl_extract_d rfl rfl rfl ?_)
    first
    | refine ops_fl rfl rfl rfl (fl_extract rfl rfl rfl ?_)
    | refine ops_fl rfl rfl rfl (fl_extract_d rfl rfl rfl ?_)
    first
    | refine ops_fl rfl rfl rfl (fl_extract rfl rfl rfl ?_)
    | refine ops_fl rfl rfl rfl (fl_extract_d rfl rfl rfl ?_)
    refine ops_fl rfl rfl rfl (fl_assign rfl rfl ?_)
    refine ops_fl rfl rfl rfl (fl_assign rfl rfl ?_)
    refine ops_fl rfl rfl rfl (fl_assign rfl rfl ?_)
    refine ops_nil ?_
    refine seq_normal ?_
    refine runs_seq ?_
    refine runs_seq ?_
    refine runs_keep [6, 5, 4, 0, 1] rfl ?_
    refine runs_region ?_
    refine ops_fl rfl rfl rfl (fl_move rfl rfl ?_)
    refine ops_fl rfl rfl rfl (fl_not rfl rfl ?_)
    refine ops_fl rfl rfl rfl (fl_move rfl rfl ?_)
    apply ops_or (yt := 18) (d := 15) 3 rfl rfl rfl (.none rfl) rfl rfl
    case h1 =>
      intro hb4 hK
      have hc := hb4; try simp only [decide_eq_true_eq, decide_eq_false_iff_not, Bool.not_eq_true', Bool.not_eq_false', Bool.not_true, Bool.not_false, Int.not_lt, Int.not_le, Bool.and_eq_true, Bool.or_eq_true, Bool.and_eq_false_iff, Bool.or_eq_false_iff, Bool.false_eq_true, Bool.true_eq_false, not_true_eq_false, not_false_eq_true, decide_true, decide_false, true_and, and_true, false_and, and_false, true_or, or_true, false_or, or_false, Bool.true_and, Bool.false_and, Bool.and_true, Bool.and_false, Bool.true_or, Bool.false_or, Bool.or_true, Bool.or_false, Int.reduceEq, Int.reduceNe, Int.reduceLT, Int.reduceLE, Int.toNat_natCast, toNat_add1, fcode, fat, RS.fail] at hc
      all_goals try (first | contradiction | (exfalso; omega))
      all_goals (
        refine ops_gyes rfl rfl rfl hb4 ?_
        refine ops_fl rfl rfl rfl (fl_move rfl rfl ?_)
        refine ops_gyes rfl rfl rfl hb4 ?_
        refine ops_fl rfl rfl rfl (fl_move rfl rfl ?_)
        refine ops_gyes rfl rfl rfl hb4 ?_
        refine ops_fl rfl rfl rfl (fl_sneq rfl rfl rfl ?_)
        exact hK [_, _, _] rfl rfl)
    case h2 =>
      intro hb4 hK
      refine ops_gno rfl rfl rfl hb4 rfl rfl ?_
      refine ops_gno rfl rfl rfl hb4 rfl rfl ?_
      refine ops_gno rfl rfl rfl hb4 rfl rfl ?_
      exact hK [_, _, _] rfl
    refine ops_nil ?_
    refine seq_normal ?_
    refine runs_cond rfl (fun h1 => ?_) (fun h1 => ?_)
    · try simp only [decide_eq_true_eq, decide_eq_false_iff_not, Bool.not_eq_true', Bool.not_eq_false', Bool.not_true, Bool.not_false, Int.not_lt, Int.not_le, Bool.and_eq_true, Bool.or_eq_true, Bool.and_eq_false_iff, Bool.or_eq_false_iff, Bool.false_eq_true, Bool.true_eq_false, not_true_eq_false, not_false_eq_true, decide_true, decide_false, true_and, and_true, false_and, and_false, true_or, or_true, false_or, or_false, Bool.true_and, Bool.false_and, Bool.and_true, Bool.and_false, Bool.true_or, Bool.false_or, Bool.or_true, Bool.or_false, Int.reduceEq, Int.reduceNe, Int.reduceLT, Int.reduceLE, Int.toNat_natCast, toNat_add1, fcode, fat, RS.fail] at h1
      all_goals try (first | contradiction | (exfalso; omega))
      all_goals (
        refine runs_keep [5, 4, 0] rfl ?_
        refine runs_region ?_
        refine ops_fl rfl rfl rfl (fl_move rfl rfl ?_)
        refine ops_fl rfl rfl rfl (fl_move rfl rfl ?_)
        refine ops_cons rfl (op_callo ca44 rfl rfl rfl rfl (fail_spec s (tokR s p).2.1 ⟨p, some a⟩) [0] (.cons rfl (by first | exact .cells rfl (FitL.rfl _) | exact .row | exact .nrow | exact .mapI | exact .nnrow | (refine .cells rfl ?_; repeat (first | exact .nil | refine .cons (by first | exact .refl _ | exact .toD rfl | exact .nil rfl | exact .nilD) ?_))) .nil) rfl rfl rfl rfl (.cons (by first | exact .refl _ | exact .toD rfl | exact .nil rfl | exact .nilD | exact .dle rfl (by repeat' (first | exact DLe.refl _ | exact DLe.nil | exact DLeL.nil | exact DLeLL.nil | apply DLe.agg | apply DLe.tup | apply DLe.sl | apply DLe.cp | apply DLeL.cons | apply DLeLL.cons))) (.cons (by first | exact .refl _ | exact .toD rfl | exact .nil rfl | exact .nilD | exact .dle rfl (by repeat' (first | exact DLe.refl _ | exact DLe.nil | exact DLeL.nil | exact DLeLL.nil | apply DLe.agg | apply DLe.tup | apply DLe.sl | apply DLe.cp | apply DLeL.cons | apply DLeLL.cons))) .nil)) (fun s ob' hq => ?_) (fun s ob' hq => ?_))
        rotate_left
        · first | exact hq.elim | cases hq.1
        obtain ⟨hq1, rfl⟩ := hq
        cases hq1
        refine ⟨_, _, _, _, _, rfl, rfl, rfl, rfl, rfl, ?_⟩
        refine ops_nil ?_
        refine seq_normal ?_
        refine runs_seq ?_
        refine runs_region ?_
        refine ops_fl rfl rfl rfl (fl_move rfl rfl ?_)
        first
        | refine ops_fl rfl rfl rfl (fl_nil_blk rfl rfl ?_)
        | refine ops_fl rfl rfl rfl (fl_nil_cp rfl rfl ?_)
        first
        | refine ops_fl rfl rfl rfl (fl_field_blk ti53 rfl rfl rfl rfl ?_)
        | refine ops_fl rfl rfl rfl (fl_field_cp ti53 rfl rfl rfl rfl rfl ?_)
        first
        | refine ops_fl rfl rfl rfl (fl_field_blk ti33 rfl rfl rfl rfl ?_)
        | refine ops_fl rfl rfl rfl (fl_field_cp ti33 rfl rfl rfl rfl rfl ?_)
        first
        | refine ops_fl rfl rfl rfl (fl_load_blk ti3 rfl rfl rfl rfl rfl rfl rfl ?_)
        | refine ops_fl rfl rfl rfl (fl_load_cp ti3 rfl rfl rfl rfl rfl rfl ?_)
        refine ops_fl rfl rfl rfl (fl_eql rfl rfl rfl ?_)
        refine ops_nil ?_
        refine seq_normal ?_
        refine runs_cond rfl (fun h3 => ?_) (fun h3 => ?_)
        · try simp only [decide_eq_true_eq, decide_eq_false_iff_not, Bool.not_eq_true', Bool.not_eq_false', Bool.not_true, Bool.not_false, Int.not_lt, Int.not_le, Bool.and_eq_true, Bool.or_eq_true, Bool.and_eq_false_iff, Bool.or_eq_false_iff, Bool.false_eq_true, Bool.true_eq_false, not_true_eq_false, not_false_eq_true, decide_true, decide_false, true_and, and_true, false_and, and_false, true_or, or_true, false_or, or_false, Bool.true_and, Bool.false_and, Bool.and_true, Bool.and_false, Bool.true_or, Bool.false_or, Bool.or_true, Bool.or_false, Int.reduceEq, Int.reduceNe, Int.reduceLT, Int.reduceLE, Int.toNat_natCast, toNat_add1, fcode, fat, RS.fail] at h3
          all_goals try (first | contradiction | (exfalso; omega))
          all_goals (
            refine runs_keep [5, 4, 0] rfl ?_
            refine runs_region ?_
            refine ops_fl rfl rfl rfl (fl_move rfl rfl ?_)
            refine ops_fl rfl rfl rfl (fl_move rfl rfl ?_)
            refine ops_fl rfl rfl rfl (fl_move rfl rfl ?_)
            refine ops_fl rfl rfl rfl (fl_len_s ut9 rfl rfl ?_)
            refine ops_fl rfl rfl rfl (fl_add rfl rfl rfl (by omega) ?_)
            first
            | refine ops_fl rfl rfl rfl (fl_nil_blk rfl rfl ?_)
            | refine ops_fl rfl rfl rfl (fl_nil_cp rfl rfl ?_)
            first
            | refine ops_fl rfl rfl rfl (fl_field_blk ti53 rfl rfl rfl rfl ?_)
            | refine ops_fl rfl rfl rfl (fl_field_cp ti53 rfl rfl rfl rfl rfl ?_)
            refine ops_cons rfl (op_store ti3 rfl rfl rfl rfl rfl rfl rfl rfl rfl rfl rfl ?_)
            refine ops_nil ?_
            refine fin_normal ?_
            refine fin_d rfl rfl ?_
            rfl
          )
        · try simp only [decide_eq_true_eq, decide_eq_false_iff_not, Bool.not_eq_true', Bool.not_eq_false', Bool.not_true, Bool.not_false, Int.not_lt, Int.not_le, Bool.and_eq_true, Bool.or_eq_true, Bool.and_eq_false_iff, Bool.or_eq_false_iff, Bool.false_eq_true, Bool.true_eq_false, not_true_eq_false, not_false_eq_true, decide_true, decide_false, true_and, and_true, false_and, and_false, true_or, or_true, false_or, or_false, Bool.true_and, Bool.false_and, Bool.and_true, Bool.and_false, Bool.true_or, Bool.false_or, Bool.or_true, Bool.or_false, Int.reduceEq, Int.reduceNe, Int.reduceLT, Int.reduceLE, Int.toNat_natCast, toNat_add1, fcode, fat, RS.fail] at h3
          all_goals try (first | contradiction | (exfalso; omega))
          all_goals (
            refine runs_skip ?_
            refine fin_normal ?_
            refine fin_od (l := []) rfl rfl ([0]) ([rdO s (RS.fail (tokR s p).2.1 ⟨p, some a⟩)]) rfl rfl rfl ?_ ?_
            · repeat (first | exact .nil | refine .cons rfl (.cells rfl (FitL.rfl _)) ?_ | refine .cons rfl .row ?_ | refine .cons rfl .mapI ?_ | refine .cons rfl .nnrow ?_ | refine .cons rfl .nrow ?_ | refine .cons rfl .dead ?_ | refine .cons rfl (.cells rfl ?_) ?_ | refine .cons (by first | exact .refl _ | exact .toD rfl | exact .nilD) ?_)
            · refine ⟨rfl, ?_⟩; unfold takeR; dsimp only; rw [if_pos (by exact h1)]
          )
      )
    · try simp only [decide_eq_true_eq, decide_eq_false_iff_not, Bool.not_eq_true', Bool.not_eq_false', Bool.not_true, Bool.not_false, Int.not_lt, Int.not_le, Bool.and_eq_true, Bool.or_eq_true, Bool.and_eq_false_iff, Bool.or_eq_false_iff, Bool.false_eq_true, Bool.true_eq_false, not_true_eq_false, not_false_eq_true, decide_true, decide_false, true_and, and_true, false_and, and_false, true_or, or_true, false_or, or_false, Bool.true_and, Bool.false_and, Bool.and_true, Bool.and_false, Bool.true_or, Bool.false_or, Bool.or_true, Bool.or_false, Int.reduceEq, Int.reduceNe, Int.reduceLT, Int.reduceLE, Int.toNat_natCast, toNat_add1, fcode, fat, RS.fail] at h1
      all_goals try (first | contradiction | (exfalso; omega))
      all_goals (
        refine runs_skip ?_
        refine seq_normal ?_
        refine runs_seq ?_
        refine runs_keep [5, 4, 0] rfl ?_
        refine runs_region ?_
        refine ops_fl rfl rfl rfl (fl_move rfl rfl ?_)
        first
        | refine ops_fl rfl rfl rfl (fl_nil_blk rfl rfl ?_)
        | refine ops_fl rfl rfl rfl (fl_nil_cp rfl rfl ?_)
        first
        | refine ops_fl rfl rfl rfl (fl_field_blk ti53 rfl rfl rfl rfl ?_)
        | refine ops_fl rfl rfl rfl (fl_field_cp ti53 rfl rfl rfl rfl rfl ?_)
        first
        | refine ops_fl rfl rfl rfl (fl_field_blk ti33 rfl rfl rfl rfl ?_)
        | refine ops_fl rfl rfl rfl (fl_field_cp ti33 rfl rfl rfl rfl rfl ?_)
        first
        | refine ops_fl rfl rfl rfl (fl_load_blk ti3 rfl rfl rfl rfl rfl rfl rfl ?_)
        | refine ops_fl rfl rfl rfl (fl_load_cp ti3 rfl rfl rfl rfl rfl rfl ?_)
        refine ops_fl rfl rfl rfl (fl_eql rfl rfl rfl ?_)
        refine ops_nil ?_
        refine seq_normal ?_
        refine runs_cond rfl (fun h3 => ?_) (fun h3 => ?_)
        · try simp only [decide_eq_true_eq, decide_eq_false_iff_not, Bool.not_eq_true', Bool.not_eq_false', Bool.not_true, Bool.not_false, Int.not_lt, Int.not_le, Bool.and_eq_true, Bool.or_eq_true, Bool.and_eq_false_iff, Bool.or_eq_false_iff, Bool.false_eq_true, Bool.true_eq_false, not_true_eq_false, not_false_eq_true, decide_true, decide_false, true_and, and_true, false_and, and_false, true_or, or_true, false_or, or_false, Bool.true_and, Bool.false_and, Bool.and_true, Bool.and_false, Bool.true_or, Bool.false_or, Bool.or_true, Bool.or_false, Int.reduceEq, Int.reduceNe, Int.reduceLT, Int.reduceLE, Int.toNat_natCast, toNat_add1, fcode, fat, RS.fail] at h3
          all_goals try (first | contradiction | (exfalso; omega))
          all_goals (
            refine runs_keep [5, 4, 0] rfl ?_
            refine runs_region ?_
            refine ops_fl rfl rfl rfl (fl_move rfl rfl ?_)
            refine ops_fl rfl rfl rfl (fl_move rfl rfl ?_)
            refine ops_fl rfl rfl rfl (fl_move rfl rfl ?_)
            refine ops_fl rfl rfl rfl (fl_len_s ut9 rfl rfl ?_)
            refine ops_fl rfl rfl rfl (fl_add rfl rfl rfl (by omega) ?_)
            first
            | refine ops_fl rfl rfl rfl (fl_nil_blk rfl rfl ?_)
            | refine ops_fl rfl rfl rfl (fl_nil_cp rfl rfl ?_)
            first
            | refine ops_fl rfl rfl rfl (fl_field_blk ti53 rfl rfl rfl rfl ?_)
            | refine ops_fl rfl rfl rfl (fl_field_cp ti53 rfl rfl rfl rfl rfl ?_)
            refine ops_cons rfl (op_store ti3 rfl rfl rfl rfl rfl rfl rfl rfl rfl rfl rfl ?_)
            refine ops_nil ?_
            refine fin_normal ?_
            refine fin_d rfl rfl ?_
            rfl
          )
        · try simp only [decide_eq_true_eq, decide_eq_false_iff_not, Bool.not_eq_true', Bool.not_eq_false', Bool.not_true, Bool.not_false, Int.not_lt, Int.not_le, Bool.and_eq_true, Bool.or_eq_true, Bool.and_eq_false_iff, Bool.or_eq_false_iff, Bool.false_eq_true, Bool.true_eq_false, not_true_eq_false, not_false_eq_true, decide_true, decide_false, true_and, and_true, false_and, and_false, true_or, or_true, false_or, or_false, Bool.true_and, Bool.false_and, Bool.and_true, Bool.and_false, Bool.true_or, Bool.false_or, Bool.or_true, Bool.or_false, Int.reduceEq, Int.reduceNe, Int.reduceLT, Int.reduceLE, Int.toNat_natCast, toNat_add1, fcode, fat, RS.fail] at h3
          all_goals try (first | contradiction | (exfalso; omega))
          all_goals (
            refine runs_skip ?_
            refine fin_normal ?_
            refine fin_od (l := []) rfl rfl ([0]) ([rdO s ⟨p, some a⟩]) rfl rfl rfl ?_ ?_
            · repeat (first | exact .nil | refine .cons rfl (.cells rfl (FitL.rfl _)) ?_ | refine .cons rfl .row ?_ | refine .cons rfl .mapI ?_ | refine .cons rfl .nnrow ?_ | refine .cons rfl .nrow ?_ | refine .cons rfl .dead ?_ | refine .cons rfl (.cells rfl ?_) ?_ | refine .cons (by first | exact .refl _ | exact .toD rfl | exact .nilD) ?_)
            · refine ⟨rfl, ?_⟩; unfold takeR; dsimp only; rw [if_neg (by rintro (h | h); exact absurd h (by simpa using h1.1); exact h h1.2)]
          )
      )

theorem done_spec (s : ByteArray) (r : RS) (hs : s.size ≤ 1099511627776) (hp : r.p ≤ s.size) :
    Tri Tryd.prog gl 26 [rdO s r] [.blk 0 0] fun out ob' => out = .ret (.d (.agg [.v (.int .i64 (fcode (doneR s r).f)), .v (.int .i64 (fat (doneR s r).f))])) ∧ ob' = [rdO s (doneR s r)] := by
  refine triS_of_runs Tryd.func26 rfl Tryd.ntmps26 (rs := [.cell 2 33]) rfl rfl rfl 1 rfl ?_
  refine runs_seq ?_
  refine runs_region ?_
  refine ops_cons (T := fun _ => False) rfl (op_alloc ti33 rfl rfl rfl rfl rfl (by simp only [List.length_cons, List.length_nil, Nat.reduceAdd]; rfl) rfl ?_)
  refine ops_nil ?_
  refine seq_normal ?_
  refine runs_seq ?_
  refine runs_region ?_
  refine ops_fl rfl rfl rfl (fl_move rfl rfl ?_)
  refine ops_cons rfl (op_callo ca41 rfl rfl rfl rfl (token_spec s r.p (fcode r.f) (fat r.f) hs hp) [0] (.cons rfl (by first | exact .cells rfl (FitL.rfl _) | exact .row | exact .nrow | exact .mapI | exact .nnrow | (refine .cells rfl ?_; repeat (first | exact .nil | refine .cons (by first | exact .refl _ | exact .toD rfl | exact .nil rfl | exact .nilD) ?_))) .nil) rfl rfl rfl rfl (.cons (by first | exact .refl _ | exact .toD rfl | exact .nil rfl | exact .nilD | exact .dle rfl (by repeat' (first | exact DLe.refl _ | exact DLe.nil | exact DLeL.nil | exact DLeLL.nil | apply DLe.agg | apply DLe.tup | apply DLe.sl | apply DLe.cp | apply DLeL.cons | apply DLeLL.cons))) .nil) (fun s ob' hq => ?_) (fun s ob' hq => ?_))
  rotate_left
  · first | exact hq.elim | cases hq.1
  obtain ⟨hq1, rfl⟩ := hq
  cases hq1
  refine ⟨_, _, _, _, _, rfl, rfl, rfl, rfl, rfl, ?_⟩
  refine ops_fl rfl rfl rfl (fl_move rfl rfl ?_)
  first
  | refine ops_fl rfl rfl rfl (fl_extract rfl rfl rfl ?_)
  | refine ops_fl rfl rfl rfl (fl_extract_d rfl rfl rfl ?_)
  first
  | refine ops_fl rfl rfl rfl (fl_extract rfl rfl rfl ?_)
  | refine ops_fl rfl rfl rfl (fl_extract_d rfl rfl rfl ?_)
  first
  | refine ops_fl rfl rfl rfl (fl_extract rfl rfl rfl ?_)
  | refine ops_fl rfl rfl rfl (fl_extract_d rfl rfl rfl ?_)
  refine ops_fl rfl rfl rfl (fl_assign rfl rfl ?_)
  refine ops_fl rfl rfl rfl (fl_assign rfl rfl ?_)
  refine ops_fl rfl rfl rfl (fl_assign rfl rfl ?_)
  refine ops_nil ?_
  refine seq_normal ?_
  refine runs_seq ?_
  refine runs_seq ?_
  refine runs_keep [5, 4, 3, 2, 0] rfl ?_
  refine runs_region ?_
  refine ops_fl rfl rfl rfl (fl_move rfl rfl ?_)
  refine ops_fl rfl rfl rfl (fl_not rfl rfl ?_)
  refine ops_fl rfl rfl rfl (fl_move rfl rfl ?_)
  apply ops_or (yt := 16) (d := 14) 2 rfl rfl rfl (.none rfl) rfl rfl
  case h1 =>
    intro hb4 hK
    have hc := hb4; try simp only [decide_eq_true_eq, decide_eq_false_iff_not, Bool.not_eq_true', Bool.not_eq_false', Bool.not_true, Bool.not_false, Int.not_lt, Int.not_le, Bool.and_eq_true, Bool.or_eq_true, Bool.and_eq_false_iff, Bool.or_eq_false_iff, Bool.false_eq_true, Bool.true_eq_false, not_true_eq_false, not_false_eq_true, decide_true, decide_false, true_and, and_true, false_and, and_false, true_or, or_true, false_or, or_false, Bool.true_and, Bool.false_and, Bool.and_true, Bool.and_false, Bool.true_or, Bool.false_or, Bool.or_true, Bool.or_false, Int.reduceEq, Int.reduceNe, Int.reduceLT, Int.reduceLE, Int.toNat_natCast, toNat_add1] at hc
    all_goals try (first | contradiction | (exfalso; omega))
    all_goals (
      refine ops_gyes rfl rfl rfl hb4 ?_
      refine ops_fl rfl rfl rfl (fl_move rfl rfl ?_)
      refine ops_gyes rfl rfl rfl hb4 ?_
      refine ops_fl rfl rfl rfl (fl_sneq rfl rfl rfl ?_)
      exact hK [_, _] rfl rfl)
  case h2 =>
    intro hb4 hK
    refine ops_gno rfl rfl rfl hb4 rfl rfl ?_
    refine ops_gno rfl rfl rfl hb4 rfl rfl ?_
    exact hK [_, _] rfl
  refine ops_nil ?_
  refine seq_normal ?_
  refine runs_cond rfl (fun h2 => ?_) (fun h2 => ?_)
  · try simp only [decide_eq_true_eq, decide_eq_false_iff_not, Bool.not_eq_true', Bool.not_eq_false', Bool.not_true, Bool.not_false, Int.not_lt, Int.not_le, Bool.and_eq_true, Bool.or_eq_true, Bool.and_eq_false_iff, Bool.or_eq_false_iff, Bool.false_eq_true, Bool.true_eq_false, not_true_eq_false, not_false_eq_true, decide_true, decide_false, true_and, and_true, false_and, and_false, true_or, or_true, false_or, or_false, Bool.true_and, Bool.false_and, Bool.and_true, Bool.and_false, Bool.true_or, Bool.false_or, Bool.or_true, Bool.or_false, Int.reduceEq, Int.reduceNe, Int.reduceLT, Int.reduceLE, Int.toNat_natCast, toNat_add1] at h2
    all_goals try (first | contradiction | (exfalso; omega))
    all_goals (
      refine runs_keep [4, 2, 0] rfl ?_
      refine runs_region ?_
      refine ops_fl rfl rfl rfl (fl_move rfl rfl ?_)
      refine ops_fl rfl rfl rfl (fl_move rfl rfl ?_)
      refine ops_cons rfl (op_callo ca44 rfl rfl rfl rfl (fail_spec s (tokR s r.p).2.1 r) [0] (.cons rfl (by first | exact .cells rfl (FitL.rfl _) | exact .row | exact .nrow | exact .mapI | exact .nnrow | (refine .cells rfl ?_; repeat (first | exact .nil | refine .cons (by first | exact .refl _ | exact .toD rfl | exact .nil rfl | exact .nilD) ?_))) .nil) rfl rfl rfl rfl (.cons (by first | exact .refl _ | exact .toD rfl | exact .nil rfl | exact .nilD | exact .dle rfl (by repeat' (first | exact DLe.refl _ | exact DLe.nil | exact DLeL.nil | exact DLeLL.nil | apply DLe.agg | apply DLe.tup | apply DLe.sl | apply DLe.cp | apply DLeL.cons | apply DLeLL.cons))) (.cons (by first | exact .refl _ | exact .toD rfl | exact .nil rfl | exact .nilD | exact .dle rfl (by repeat' (first | exact DLe.refl _ | exact DLe.nil | exact DLeL.nil | exact DLeLL.nil | apply DLe.agg | apply DLe.tup | apply DLe.sl | apply DLe.cp | apply DLeL.cons | apply DLeLL.cons))) .nil)) (fun s ob' hq => ?_) (fun s ob' hq => ?_))
      rotate_left
      · first | exact hq.elim | cases hq.1
      obtain ⟨hq1, rfl⟩ := hq
      cases hq1
      refine ⟨_, _, _, _, _, rfl, rfl, rfl, rfl, rfl, ?_⟩
      refine ops_nil ?_
      refine seq_normal ?_
      refine runs_seq ?_
      refine runs_keep [2, 0] rfl ?_
      refine runs_region ?_
      refine ops_fl rfl rfl rfl (fl_move rfl rfl ?_)
      first
      | refine ops_fl rfl rfl rfl (fl_nil_blk rfl rfl ?_)
      | refine ops_fl rfl rfl rfl (fl_nil_cp rfl rfl ?_)
      first
      | refine ops_fl rfl rfl rfl (fl_field_blk ti53 rfl rfl rfl rfl ?_)
      | refine ops_fl rfl rfl rfl (fl_field_cp ti53 rfl rfl rfl rfl rfl ?_)
      first
      | refine ops_fl rfl rfl rfl (fl_load_blk ti33 rfl rfl rfl rfl rfl rfl rfl ?_)
      | refine ops_fl rfl rfl rfl (fl_load_cp ti33 rfl rfl rfl rfl rfl rfl ?_)
      | refine ops_fl rfl rfl rfl (fl_load_all ti33 rfl rfl rfl rfl (by first | rfl | exact Lvl.cells_len _) ?_)
      refine ops_cons rfl (op_store ti33 rfl rfl rfl rfl rfl rfl rfl rfl rfl rfl rfl ?_)
      refine ops_nil ?_
      refine seq_normal ?_
      refine runs_ret ?_
      refine fin_ret ?_
      refine fin_od ⟨_, _, rfl, (from_cell rfl rfl ti33 rfl rfl rfl rfl), rfl⟩ rfl ([0]) ([rdO s (RS.fail (tokR s r.p).2.1 r)]) rfl rfl rfl ?_ ?_
      · repeat (first | exact .nil | refine .cons rfl (.cells rfl (FitL.rfl _)) ?_ | refine .cons rfl .row ?_ | refine .cons rfl .mapI ?_ | refine .cons rfl .nnrow ?_ | refine .cons rfl .nrow ?_ | refine .cons rfl .dead ?_ | refine .cons rfl (.cells rfl ?_) ?_ | refine .cons (by first | exact .refl _ | exact .toD rfl | exact .nilD) ?_)
      · unfold doneR; simp only; rw [if_pos (by exact h2)]; exact ⟨rfl, rfl⟩
    )
  · try simp only [decide_eq_true_eq, decide_eq_false_iff_not, Bool.not_eq_true', Bool.not_eq_false', Bool.not_true, Bool.not_false, Int.not_lt, Int.not_le, Bool.and_eq_true, Bool.or_eq_true, Bool.and_eq_false_iff, Bool.or_eq_false_iff, Bool.false_eq_true, Bool.true_eq_false, not_true_eq_false, not_false_eq_true, decide_true, decide_false, true_and, and_true, false_and, and_false, true_or, or_true, false_or, or_false, Bool.true_and, Bool.false_and, Bool.and_true, Bool.and_false, Bool.true_or, Bool.false_or, Bool.or_true, Bool.or_false, Int.reduceEq, Int.reduceNe, Int.reduceLT, Int.reduceLE, Int.toNat_natCast, toNat_add1] at h2
    all_goals try (first | contradiction | (exfalso; omega))
    all_goals (
      refine runs_skip ?_
      refine seq_normal ?_
      refine runs_seq ?_
      refine runs_keep [2, 0] rfl ?_
      refine runs_region ?_
      refine ops_fl rfl rfl rfl (fl_move rfl rfl ?_)
      first
      | refine ops_fl rfl rfl rfl (fl_nil_blk rfl rfl ?_)
      | refine ops_fl rfl rfl rfl (fl_nil_cp rfl rfl ?_)
      first
      | refine ops_fl rfl rfl rfl (fl_field_blk ti53 rfl rfl rfl rfl ?_)
      | refine ops_fl rfl rfl rfl (fl_field_cp ti53 rfl rfl rfl rfl rfl ?_)
      first
      | refine ops_fl rfl rfl rfl (fl_load_blk ti33 rfl rfl rfl rfl rfl rfl rfl ?_)
      | refine ops_fl rfl rfl rfl (fl_load_cp ti33 rfl rfl rfl rfl rfl rfl ?_)
      | refine ops_fl rfl rfl rfl (fl_load_all ti33 rfl rfl rfl rfl (by first | rfl | exact Lvl.cells_len _) ?_)
      refine ops_cons rfl (op_store ti33 rfl rfl rfl rfl rfl rfl rfl rfl rfl rfl rfl ?_)
      refine ops_nil ?_
      refine seq_normal ?_
      refine runs_ret ?_
      refine fin_ret ?_
      refine fin_od ⟨_, _, rfl, (from_cell rfl rfl ti33 rfl rfl rfl rfl), rfl⟩ rfl ([0]) ([rdO s r]) rfl rfl rfl ?_ ?_
      · repeat (first | exact .nil | refine .cons rfl (.cells rfl (FitL.rfl _)) ?_ | refine .cons rfl .row ?_ | refine .cons rfl .mapI ?_ | refine .cons rfl .nnrow ?_ | refine .cons rfl .nrow ?_ | refine .cons rfl .dead ?_ | refine .cons rfl (.cells rfl ?_) ?_ | refine .cons (by first | exact .refl _ | exact .toD rfl | exact .nilD) ?_)
      · unfold doneR; simp only; rw [if_neg (by rintro (h | h); exact absurd h (by simpa using h2.1); exact h h2.2)]; exact ⟨rfl, rfl⟩
    )
end Go.Proofs.YtafhnnbbfgoacaaDoor
