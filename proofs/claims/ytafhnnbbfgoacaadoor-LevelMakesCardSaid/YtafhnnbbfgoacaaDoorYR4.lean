/-
  What is proved here: contracts of the reference's functions on levels: PrintLevel.
-/
import Derived.Test.YtafhnnbbfgoacaaDoorYR3
set_option linter.unusedSimpArgs false
set_option linter.unusedVariables false
namespace Go.Proofs.YtafhnnbbfgoacaaDoor
open Go Go.Vd Go.RowKit
attribute [local irreducible] Runs OpsR OpR FloatR AnyR
variable {gl : Nat → List D}

theorem printLevel_spec : ∀ x : Lev, x.weight ≤ 1099511627776 →
    TriD Tryd.prog gl 19 [x.toLvl.d] (· = .v (.string x.print)) := by
  intro x
  induction x with
  | zero =>
    intro hsz
    refine triD_of_runs Tryd.func19 rfl Tryd.ntmps19 (rs := [.tmp 2]) rfl rfl rfl ?_
    refine runs_seq ?_
    refine runs_region ?_
    refine ops_cons (T := fun _ => False) rfl (op_box ti31 rfl rfl rfl rfl rfl (by simp only [List.length_cons, List.length_nil, Nat.reduceAdd]; rfl) rfl ?_)
    refine ops_fl rfl rfl rfl (fl_assign rfl rfl ?_)
    refine ops_nil ?_
    refine seq_normal ?_
    refine runs_seq ?_
    refine runs_seq ?_
    refine runs_region ?_
    first
    | refine ops_fl rfl rfl rfl (fl_field_blk ti31 rfl rfl rfl rfl ?_)
    | refine ops_fl rfl rfl rfl (fl_field_cp ti31 rfl rfl rfl rfl rfl ?_)
    first
    | refine ops_fl rfl rfl rfl (fl_load_blk ti3 rfl rfl rfl rfl rfl rfl rfl ?_)
    | refine ops_fl rfl rfl rfl (fl_load_cp ti3 rfl rfl rfl rfl rfl rfl ?_)
    refine ops_nil ?_
    refine seq_normal ?_
    refine runs_block ?_
    refine runs_seq ?_
    refine runs_region ?_
    refine ops_fl rfl rfl rfl (fl_eql rfl rfl rfl ?_)
    refine ops_fl rfl rfl rfl (fl_assign rfl rfl ?_)
    refine ops_nil ?_
    refine seq_normal ?_
    refine runs_cond rfl (fun h2 => ?_) (fun h2 => ?_)
    · try simp only [decide_eq_true_eq, decide_eq_false_iff_not, Bool.not_eq_true', Bool.not_eq_false', Bool.not_true, Bool.not_false, Int.not_lt, Int.not_le, Bool.and_eq_true, Bool.or_eq_true, Bool.and_eq_false_iff, Bool.or_eq_false_iff, Bool.false_eq_true, Bool.true_eq_false, not_true_eq_false, not_false_eq_true, decide_true, decide_false, true_and, and_true, false_and, and_false, true_or, or_true, false_or, or_false, Bool.true_and, Bool.false_and, Bool.and_true, Bool.and_false, Bool.true_or, Bool.false_or, Bool.or_true, Bool.or_false, Int.reduceEq, Int.reduceNe, Int.reduceLT, Int.reduceLE, Int.toNat_natCast, toNat_add1] at h2
      all_goals try (first | contradiction | (exfalso; omega))
      all_goals (
        refine runs_seq ?_
        refine runs_keep [] rfl ?_
        refine runs_region ?_
        refine ops_fl rfl rfl rfl (fl_assign rfl rfl ?_)
        refine ops_nil ?_
        refine seq_normal ?_
        refine runs_ret ?_
        refine inb_ret ?_
        refine seq_ret ?_
        refine fin_ret ?_
        refine fin_d1 rfl rfl ?_
        rfl
      )
    · try simp only [decide_eq_true_eq, decide_eq_false_iff_not, Bool.not_eq_true', Bool.not_eq_false', Bool.not_true, Bool.not_false, Int.not_lt, Int.not_le, Bool.and_eq_true, Bool.or_eq_true, Bool.and_eq_false_iff, Bool.or_eq_false_iff, Bool.false_eq_true, Bool.true_eq_false, not_true_eq_false, not_false_eq_true, decide_true, decide_false, true_and, and_true, false_and, and_false, true_or, or_true, false_or, or_false, Bool.true_and, Bool.false_and, Bool.and_true, Bool.and_false, Bool.true_or, Bool.false_or, Bool.or_true, Bool.or_false, Int.reduceEq, Int.reduceNe, Int.reduceLT, Int.reduceLE, Int.toNat_natCast, toNat_add1] at h2
      all_goals (first | contradiction | (exfalso; omega) | (exfalso; simp_all))
  | succ a ih =>
    intro hsz
    simp only [Lev.weight] at hsz
    have h9 := a.print_size
    refine triD_of_runs Tryd.func19 rfl Tryd.ntmps19 (rs := [.tmp 2]) rfl rfl rfl ?_
    refine runs_seq ?_
    refine runs_region ?_
    refine ops_cons (T := fun _ => False) rfl (op_box ti31 rfl rfl rfl rfl rfl (by simp only [List.length_cons, List.length_nil, Nat.reduceAdd]; rfl) rfl ?_)
    refine ops_fl rfl rfl rfl (fl_assign rfl rfl ?_)
    refine ops_nil ?_
    refine seq_normal ?_
    refine runs_seq ?_
    refine runs_seq ?_
    refine runs_region ?_
    first
    | refine ops_fl rfl rfl rfl (fl_field_blk ti31 rfl rfl rfl rfl ?_)
    | refine ops_fl rfl rfl rfl (fl_field_cp ti31 rfl rfl rfl rfl rfl ?_)
    first
    | refine ops_fl rfl rfl rfl (fl_load_blk ti3 rfl rfl rfl rfl rfl rfl rfl ?_)
    | refine ops_fl rfl rfl rfl (fl_load_cp ti3 rfl rfl rfl rfl rfl rfl ?_)
    refine ops_nil ?_
    refine seq_normal ?_
    refine runs_block ?_
    refine runs_seq ?_
    refine runs_region ?_
    refine ops_fl rfl rfl rfl (fl_eql rfl rfl rfl ?_)
    refine ops_fl rfl rfl rfl (fl_assign rfl rfl ?_)
    refine ops_nil ?_
    refine seq_normal ?_
    refine runs_cond rfl (fun h2 => ?_) (fun h2 => ?_)
    · try simp only [decide_eq_true_eq, decide_eq_false_iff_not, Bool.not_eq_true', Bool.not_eq_false', Bool.not_true, Bool.not_false, Int.not_lt, Int.not_le, Bool.and_eq_true, Bool.or_eq_true, Bool.and_eq_false_iff, Bool.or_eq_false_iff, Bool.false_eq_true, Bool.true_eq_false, not_true_eq_false, not_false_eq_true, decide_true, decide_false, true_and, and_true, false_and, and_false, true_or, or_true, false_or, or_false, Bool.true_and, Bool.false_and, Bool.and_true, Bool.and_false, Bool.true_or, Bool.false_or, Bool.or_true, Bool.or_false, Int.reduceEq, Int.reduceNe, Int.reduceLT, Int.reduceLE, Int.toNat_natCast, toNat_add1] at h2
      all_goals (first | contradiction | (exfalso; omega) | (exfalso; simp_all))
    · try simp only [decide_eq_true_eq, decide_eq_false_iff_not, Bool.not_eq_true', Bool.not_eq_false', Bool.not_true, Bool.not_false, Int.not_lt, Int.not_le, Bool.and_eq_true, Bool.or_eq_true, Bool.and_eq_false_iff, Bool.or_eq_false_iff, Bool.false_eq_true, Bool.true_eq_false, not_true_eq_false, not_false_eq_true, decide_true, decide_false, true_and, and_true, false_and, and_false, true_or, or_true, false_or, or_false, Bool.true_and, Bool.false_and, Bool.and_true, Bool.and_false, Bool.true_or, Bool.false_or, Bool.or_true, Bool.or_false, Int.reduceEq, Int.reduceNe, Int.reduceLT, Int.reduceLE, Int.toNat_natCast, toNat_add1] at h2
      all_goals try (first | contradiction | (exfalso; omega))
      all_goals (
        refine runs_seq ?_
        refine runs_keep [5, 1] rfl ?_
        refine runs_region ?_
        refine ops_fl rfl rfl rfl (fl_eql rfl rfl rfl ?_)
        refine ops_fl rfl rfl rfl (fl_assign rfl rfl ?_)
        refine ops_nil ?_
        refine seq_normal ?_
        refine runs_cond rfl (fun h4 => ?_) (fun h4 => ?_)
        · try simp only [decide_eq_true_eq, decide_eq_false_iff_not, Bool.not_eq_true', Bool.not_eq_false', Bool.not_true, Bool.not_false, Int.not_lt, Int.not_le, Bool.and_eq_true, Bool.or_eq_true, Bool.and_eq_false_iff, Bool.or_eq_false_iff, Bool.false_eq_true, Bool.true_eq_false, not_true_eq_false, not_false_eq_true, decide_true, decide_false, true_and, and_true, false_and, and_false, true_or, or_true, false_or, or_false, Bool.true_and, Bool.false_and, Bool.and_true, Bool.and_false, Bool.true_or, Bool.false_or, Bool.or_true, Bool.or_false, Int.reduceEq, Int.reduceNe, Int.reduceLT, Int.reduceLE, Int.toNat_natCast, toNat_add1] at h4
          all_goals try (first | contradiction | (exfalso; omega))
          all_goals (
            refine runs_seq ?_
            refine runs_region ?_
            first
            | refine ops_fl rfl rfl rfl (fl_field_blk ti31 rfl rfl rfl rfl ?_)
            | refine ops_fl rfl rfl rfl (fl_field_cp ti31 rfl rfl rfl rfl rfl ?_)
            first
            | refine ops_fl rfl rfl rfl (fl_load_blk ti29 rfl rfl rfl rfl rfl rfl rfl ?_)
            | refine ops_fl rfl rfl rfl (fl_load_cp ti29 rfl rfl rfl rfl rfl rfl ?_)
            first
            | refine ops_fl rfl rfl rfl (fl_index us29 te29 rfl rfl rfl rfl rfl (by omega) (rfl) ?_)
            | refine ops_fl rfl rfl rfl (fl_index_own us29 te29 rfl rfl rfl rfl rfl (by omega) (rfl) ?_)
            first
            | refine ops_fl rfl rfl rfl (fl_load_blk ti31 rfl rfl rfl rfl rfl rfl rfl ?_)
            | refine ops_fl rfl rfl rfl (fl_load_cp ti31 rfl rfl rfl rfl rfl rfl ?_)
            | refine ops_fl rfl rfl rfl (fl_load_all ti31 rfl rfl rfl rfl (by first | rfl | exact Lvl.cells_len _) ?_)
            refine ops_cons (T := fun _ => False) rfl (op_call ca19 rfl rfl rfl rfl (ih (by omega)) (.cons (by first | exact .refl _ | exact .toD rfl | exact .nilD | exact .dle rfl (by repeat' (first | exact DLe.refl _ | exact DLe.nil | exact DLeL.nil | exact DLeLL.nil | apply DLe.agg | apply DLe.tup | apply DLe.sl | apply DLe.cp | apply DLeL.cons | apply DLeLL.cons))) .nil) (fun d hd => ?_))
            obtain rfl := hd
            refine ops_fl rfl rfl rfl (fl_sadd rfl rfl rfl (by (try simp only [ByteArray.size_append, size_mk, List.size_toArray, List.length_cons, List.length_nil]); omega) ?_)
            refine ops_fl rfl rfl rfl (fl_sadd rfl rfl rfl (by (try simp only [ByteArray.size_append, size_mk, List.size_toArray, List.length_cons, List.length_nil]); omega) ?_)
            refine ops_fl rfl rfl rfl (fl_assign rfl rfl ?_)
            refine ops_nil ?_
            refine seq_normal ?_
            refine runs_ret ?_
            refine inb_ret ?_
            refine seq_ret ?_
            refine fin_ret ?_
            refine fin_d1 rfl rfl ?_
            rfl
          )
        · try simp only [decide_eq_true_eq, decide_eq_false_iff_not, Bool.not_eq_true', Bool.not_eq_false', Bool.not_true, Bool.not_false, Int.not_lt, Int.not_le, Bool.and_eq_true, Bool.or_eq_true, Bool.and_eq_false_iff, Bool.or_eq_false_iff, Bool.false_eq_true, Bool.true_eq_false, not_true_eq_false, not_false_eq_true, decide_true, decide_false, true_and, and_true, false_and, and_false, true_or, or_true, false_or, or_false, Bool.true_and, Bool.false_and, Bool.and_true, Bool.and_false, Bool.true_or, Bool.false_or, Bool.or_true, Bool.or_false, Int.reduceEq, Int.reduceNe, Int.reduceLT, Int.reduceLE, Int.toNat_natCast, toNat_add1] at h4
          all_goals (first | contradiction | (exfalso; omega) | (exfalso; simp_all))
      )
  | max a b iha ihb =>
    intro hsz
    simp only [Lev.weight] at hsz
    have h9 := a.print_size
    have h10 := b.print_size
    refine triD_of_runs Tryd.func19 rfl Tryd.ntmps19 (rs := [.tmp 2]) rfl rfl rfl ?_
    refine runs_seq ?_
    refine runs_region ?_
    refine ops_cons (T := fun _ => False) rfl (op_box ti31 rfl rfl rfl rfl rfl (by simp only [List.length_cons, List.length_nil, Nat.reduceAdd]; rfl) rfl ?_)
    refine ops_fl rfl rfl rfl (fl_assign rfl rfl ?_)
    refine ops_nil ?_
    refine seq_normal ?_
    refine runs_seq ?_
    refine runs_seq ?_
    refine runs_region ?_
    first
    | refine ops_fl rfl rfl rfl (fl_field_blk ti31 rfl rfl rfl rfl ?_)
    | refine ops_fl rfl rfl rfl (fl_field_cp ti31 rfl rfl rfl rfl rfl ?_)
    first
    | refine ops_fl rfl rfl rfl (fl_load_blk ti3 rfl rfl rfl rfl rfl rfl rfl ?_)
    | refine ops_fl rfl rfl rfl (fl_load_cp ti3 rfl rfl rfl rfl rfl rfl ?_)
    refine ops_nil ?_
    refine seq_normal ?_
    refine runs_block ?_
    refine runs_seq ?_
    refine runs_region ?_
    refine ops_fl rfl rfl rfl (fl_eql rfl rfl rfl ?_)
    refine ops_fl rfl rfl rfl (fl_assign rfl rfl ?_)
    refine ops_nil ?_
    refine seq_normal ?_
    refine runs_cond rfl (fun h2 => ?_) (fun h2 => ?_)
    · try simp only [decide_eq_true_eq, decide_eq_false_iff_not, Bool.not_eq_true', Bool.not_eq_false', Bool.not_true, Bool.not_false, Int.not_lt, Int.not_le, Bool.and_eq_true, Bool.or_eq_true, Bool.and_eq_false_iff, Bool.or_eq_false_iff, Bool.false_eq_true, Bool.true_eq_false, not_true_eq_false, not_false_eq_true, decide_true, decide_false, true_and, and_true, false_and, and_false, true_or, or_true, false_or, or_false, Bool.true_and, Bool.false_and, Bool.and_true, Bool.and_false, Bool.true_or, Bool.false_or, Bool.or_true, Bool.or_false, Int.reduceEq, Int.reduceNe, Int.reduceLT, Int.reduceLE, Int.toNat_natCast, toNat_add1] at h2
      all_goals (first | contradiction | (exfalso; omega) | (exfalso; simp_all))
    · try simp only [decide_eq_true_eq, decide_eq_false_iff_not, Bool.not_eq_true', Bool.not_eq_false', Bool.not_true, Bool.not_false, Int.not_lt, Int.not_le, Bool.and_eq_true, Bool.or_eq_true, Bool.and_eq_false_iff, Bool.or_eq_false_iff, Bool.false_eq_true, Bool.true_eq_false, not_true_eq_false, not_false_eq_true, decide_true, decide_false, true_and, and_true, false_and, and_false, true_or, or_true, false_or, or_false, Bool.true_and, Bool.false_and, Bool.and_true, Bool.and_false, Bool.true_or, Bool.false_or, Bool.or_true, Bool.or_false, Int.reduceEq, Int.reduceNe, Int.reduceLT, Int.reduceLE, Int.toNat_natCast, toNat_add1] at h2
      all_goals try (first | contradiction | (exfalso; omega))
      all_goals (
        refine runs_seq ?_
        refine runs_keep [5, 1] rfl ?_
        refine runs_region ?_
        refine ops_fl rfl rfl rfl (fl_eql rfl rfl rfl ?_)
        refine ops_fl rfl rfl rfl (fl_assign rfl rfl ?_)
        refine ops_nil ?_
        refine seq_normal ?_
        refine runs_cond rfl (fun h4 => ?_) (fun h4 => ?_)
        · try simp only [decide_eq_true_eq, decide_eq_false_iff_not, Bool.not_eq_true', Bool.not_eq_false', Bool.not_true, Bool.not_false, Int.not_lt, Int.not_le, Bool.and_eq_true, Bool.or_eq_true, Bool.and_eq_false_iff, Bool.or_eq_false_iff, Bool.false_eq_true, Bool.true_eq_false, not_true_eq_false, not_false_eq_true, decide_true, decide_false, true_and, and_true, false_and, and_false, true_or, or_true, false_or, or_false, Bool.true_and, Bool.false_and, Bool.and_true, Bool.and_false, Bool.true_or, Bool.false_or, Bool.or_true, Bool.or_false, Int.reduceEq, Int.reduceNe, Int.reduceLT, Int.reduceLE, Int.toNat_natCast, toNat_add1] at h4
          all_goals (first | contradiction | (exfalso; omega) | (exfalso; simp_all))
        · try simp only [decide_eq_true_eq, decide_eq_false_iff_not, Bool.not_eq_true', Bool.not_eq_false', Bool.not_true, Bool.not_false, Int.not_lt, Int.not_le, Bool.and_eq_true, Bool.or_eq_true, Bool.and_eq_false_iff, Bool.or_eq_false_iff, Bool.false_eq_true, Bool.true_eq_false, not_true_eq_false, not_false_eq_true, decide_true, decide_false, true_and, and_true, false_and, and_false, true_or, or_true, false_or, or_false, Bool.true_and, Bool.false_and, Bool.and_true, Bool.and_false, Bool.true_or, Bool.false_or, Bool.or_true, Bool.or_false, Int.reduceEq, Int.reduceNe, Int.reduceLT, Int.reduceLE, Int.toNat_natCast, toNat_add1] at h4
          all_goals try (first | contradiction | (exfalso; omega))
          all_goals (
            refine runs_seq ?_
            refine runs_region ?_
            refine ops_fl rfl rfl rfl (fl_eql rfl rfl rfl ?_)
            refine ops_fl rfl rfl rfl (fl_assign rfl rfl ?_)
            refine ops_nil ?_
            refine seq_normal ?_
            refine runs_cond rfl (fun h6 => ?_) (fun h6 => ?_)
            · try simp only [decide_eq_true_eq, decide_eq_false_iff_not, Bool.not_eq_true', Bool.not_eq_false', Bool.not_true, Bool.not_false, Int.not_lt, Int.not_le, Bool.and_eq_true, Bool.or_eq_true, Bool.and_eq_false_iff, Bool.or_eq_false_iff, Bool.false_eq_true, Bool.true_eq_false, not_true_eq_false, not_false_eq_true, decide_true, decide_false, true_and, and_true, false_and, and_false, true_or, or_true, false_or, or_false, Bool.true_and, Bool.false_and, Bool.and_true, Bool.and_false, Bool.true_or, Bool.false_or, Bool.or_true, Bool.or_false, Int.reduceEq, Int.reduceNe, Int.reduceLT, Int.reduceLE, Int.toNat_natCast, toNat_add1] at h6
              all_goals (first | contradiction | (exfalso; omega) | (exfalso; simp_all))
            · try simp only [decide_eq_true_eq, decide_eq_false_iff_not, Bool.not_eq_true', Bool.not_eq_false', Bool.not_true, Bool.not_false, Int.not_lt, Int.not_le, Bool.and_eq_true, Bool.or_eq_true, Bool.and_eq_false_iff, Bool.or_eq_false_iff, Bool.false_eq_true, Bool.true_eq_false, not_true_eq_false, not_false_eq_true, decide_true, decide_false, true_and, and_true, false_and, and_false, true_or, or_true, false_or, or_false, Bool.true_and, Bool.false_and, Bool.and_true, Bool.and_false, Bool.true_or, Bool.false_or, Bool.or_true, Bool.or_false, Int.reduceEq, Int.reduceNe, Int.reduceLT, Int.reduceLE, Int.toNat_natCast, toNat_add1] at h6
              all_goals try (first | contradiction | (exfalso; omega))
              all_goals (
                refine runs_skip ?_
                refine inb_normal ?_
                refine seq_normal ?_
                refine runs_seq ?_
                refine runs_keep [1] rfl ?_
                refine runs_region ?_
                refine ops_fl rfl rfl rfl (fl_assign rfl rfl ?_)
                refine ops_nil ?_
                refine seq_normal ?_
                refine runs_seq ?_
                refine runs_seq ?_
                refine runs_region ?_
                first
                | refine ops_fl rfl rfl rfl (fl_field_blk ti31 rfl rfl rfl rfl ?_)
                | refine ops_fl rfl rfl rfl (fl_field_cp ti31 rfl rfl rfl rfl rfl ?_)
                first
                | refine ops_fl rfl rfl rfl (fl_load_blk ti3 rfl rfl rfl rfl rfl rfl rfl ?_)
                | refine ops_fl rfl rfl rfl (fl_load_cp ti3 rfl rfl rfl rfl rfl rfl ?_)
                refine ops_fl rfl rfl rfl (fl_eql rfl rfl rfl ?_)
                refine ops_nil ?_
                refine seq_normal ?_
                refine runs_cond rfl (fun h9 => ?_) (fun h9 => ?_)
                · try simp only [decide_eq_true_eq, decide_eq_false_iff_not, Bool.not_eq_true', Bool.not_eq_false', Bool.not_true, Bool.not_false, Int.not_lt, Int.not_le, Bool.and_eq_true, Bool.or_eq_true, Bool.and_eq_false_iff, Bool.or_eq_false_iff, Bool.false_eq_true, Bool.true_eq_false, not_true_eq_false, not_false_eq_true, decide_true, decide_false, true_and, and_true, false_and, and_false, true_or, or_true, false_or, or_false, Bool.true_and, Bool.false_and, Bool.and_true, Bool.and_false, Bool.true_or, Bool.false_or, Bool.or_true, Bool.or_false, Int.reduceEq, Int.reduceNe, Int.reduceLT, Int.reduceLE, Int.toNat_natCast, toNat_add1] at h9
                  all_goals (first | contradiction | (exfalso; omega) | (exfalso; simp_all))
                · try simp only [decide_eq_true_eq, decide_eq_false_iff_not, Bool.not_eq_true', Bool.not_eq_false', Bool.not_true, Bool.not_false, Int.not_lt, Int.not_le, Bool.and_eq_true, Bool.or_eq_true, Bool.and_eq_false_iff, Bool.or_eq_false_iff, Bool.false_eq_true, Bool.true_eq_false, not_true_eq_false, not_false_eq_true, decide_true, decide_false, true_and, and_true, false_and, and_false, true_or, or_true, false_or, or_false, Bool.true_and, Bool.false_and, Bool.and_true, Bool.and_false, Bool.true_or, Bool.false_or, Bool.or_true, Bool.or_false, Int.reduceEq, Int.reduceNe, Int.reduceLT, Int.reduceLE, Int.toNat_natCast, toNat_add1] at h9
                  all_goals try (first | contradiction | (exfalso; omega))
                  all_goals (
                    refine runs_skip ?_
                    refine seq_normal ?_
                    refine runs_seq ?_
                    refine any_start mixed rfl rfl ?_
                    refine any_fl 0 rfl rfl rfl rfl (by kernel_rfl) rfl (fl_move rfl rfl ⟨_, rfl, ?_⟩)
                    refine any_fl 1 rfl rfl rfl rfl (by kernel_rfl) rfl (fl_sadd rfl rfl rfl (by (try simp only [ByteArray.size_append, size_mk, List.size_toArray, List.length_cons, List.length_nil]); omega) ⟨_, rfl, ?_⟩)
                    refine any_fl 2 rfl rfl rfl rfl (by kernel_rfl) rfl (fl_sadd rfl rfl rfl (by (try simp only [ByteArray.size_append, size_mk, List.size_toArray, List.length_cons, List.length_nil]); omega) ⟨_, rfl, ?_⟩)
                    first
                    | refine any_fl 3 rfl rfl rfl rfl (by kernel_rfl) rfl (fl_field_blk ti31 rfl rfl rfl rfl ⟨_, rfl, ?_⟩)
                    | refine any_fl 3 rfl rfl rfl rfl (by kernel_rfl) rfl (fl_field_cp ti31 rfl rfl rfl rfl rfl ⟨_, rfl, ?_⟩)
                    first
                    | refine any_fl 4 rfl rfl rfl rfl (by kernel_rfl) rfl (fl_load_blk ti29 rfl rfl rfl rfl rfl rfl rfl ⟨_, rfl, ?_⟩)
                    | refine any_fl 4 rfl rfl rfl rfl (by kernel_rfl) rfl (fl_load_cp ti29 rfl rfl rfl rfl rfl rfl ⟨_, rfl, ?_⟩)
                    first
                    | refine any_fl 5 rfl rfl rfl rfl (by kernel_rfl) rfl (fl_index us29 te29 rfl rfl rfl rfl rfl (by omega) (rfl) ⟨_, rfl, ?_⟩)
                    | refine any_fl 5 rfl rfl rfl rfl (by kernel_rfl) rfl (fl_index_own us29 te29 rfl rfl rfl rfl rfl (by omega) (rfl) ⟨_, rfl, ?_⟩)
                    first
                    | refine any_fl 6 rfl rfl rfl rfl (by kernel_rfl) rfl (fl_load_blk ti31 rfl rfl rfl rfl rfl rfl rfl ⟨_, rfl, ?_⟩)
                    | refine any_fl 6 rfl rfl rfl rfl (by kernel_rfl) rfl (fl_load_cp ti31 rfl rfl rfl rfl rfl rfl ⟨_, rfl, ?_⟩)
                    | refine any_fl 6 rfl rfl rfl rfl (by kernel_rfl) rfl (fl_load_all ti31 rfl rfl rfl rfl (by first | rfl | exact Lvl.cells_len _) ⟨_, rfl, ?_⟩)
                    first
                    | refine any_fl 10 rfl rfl rfl rfl (by kernel_rfl) rfl (fl_field_blk ti31 rfl rfl rfl rfl ⟨_, rfl, ?_⟩)
                    | refine any_fl 10 rfl rfl rfl rfl (by kernel_rfl) rfl (fl_field_cp ti31 rfl rfl rfl rfl rfl ⟨_, rfl, ?_⟩)
                    first
                    | refine any_fl 11 rfl rfl rfl rfl (by kernel_rfl) rfl (fl_load_blk ti29 rfl rfl rfl rfl rfl rfl rfl ⟨_, rfl, ?_⟩)
                    | refine any_fl 11 rfl rfl rfl rfl (by kernel_rfl) rfl (fl_load_cp ti29 rfl rfl rfl rfl rfl rfl ⟨_, rfl, ?_⟩)
                    first
                    | refine any_fl 12 rfl rfl rfl rfl (by kernel_rfl) rfl (fl_index us29 te29 rfl rfl rfl rfl rfl (by omega) (rfl) ⟨_, rfl, ?_⟩)
                    | refine any_fl 12 rfl rfl rfl rfl (by kernel_rfl) rfl (fl_index_own us29 te29 rfl rfl rfl rfl rfl (by omega) (rfl) ⟨_, rfl, ?_⟩)
                    first
                    | refine any_fl 13 rfl rfl rfl rfl (by kernel_rfl) rfl (fl_load_blk ti31 rfl rfl rfl rfl rfl rfl rfl ⟨_, rfl, ?_⟩)
                    | refine any_fl 13 rfl rfl rfl rfl (by kernel_rfl) rfl (fl_load_cp ti31 rfl rfl rfl rfl rfl rfl ⟨_, rfl, ?_⟩)
                    | refine any_fl 13 rfl rfl rfl rfl (by kernel_rfl) rfl (fl_load_all ti31 rfl rfl rfl rfl (by first | rfl | exact Lvl.cells_len _) ⟨_, rfl, ?_⟩)
                    refine any_st (T := fun _ => False) 7 rfl rfl (by kernel_rfl) rfl rfl (by intro p hp; simp only [List.mem_cons, List.not_mem_nil, or_false] at hp; all_goals (first | exact hp.elim | (subst hp; exact ⟨by simp, _, _, rfl⟩) | (rcases hp with rfl | rfl <;> exact ⟨by simp, _, _, rfl⟩) | (rcases hp with rfl | rfl | rfl <;> exact ⟨by simp, _, _, rfl⟩) | (rcases hp with rfl | rfl | rfl | rfl <;> exact ⟨by simp, _, _, rfl⟩) | (rcases hp with rfl | rfl | rfl | rfl | rfl <;> exact ⟨by simp, _, _, rfl⟩))) (op_call ca19 rfl rfl rfl rfl (iha (by omega)) (.cons (by first | exact .refl _ | exact .toD rfl | exact .nilD | exact .dle rfl (by repeat' (first | exact DLe.refl _ | exact DLe.nil | exact DLeL.nil | exact DLeLL.nil | apply DLe.agg | apply DLe.tup | apply DLe.sl | apply DLe.cp | apply DLeL.cons | apply DLeLL.cons))) .nil) (fun d hd => ?_))
                    obtain rfl := hd
                    refine any_fl 8 rfl rfl rfl rfl (by kernel_rfl) rfl (fl_sadd rfl rfl rfl (by (try simp only [ByteArray.size_append, size_mk, List.size_toArray, List.length_cons, List.length_nil]); omega) ⟨_, rfl, ?_⟩)
                    refine any_fl 9 rfl rfl rfl rfl (by kernel_rfl) rfl (fl_sadd rfl rfl rfl (by (try simp only [ByteArray.size_append, size_mk, List.size_toArray, List.length_cons, List.length_nil]); omega) ⟨_, rfl, ?_⟩)
                    refine any_st (T := fun _ => False) 14 rfl rfl (by kernel_rfl) rfl rfl (by intro p hp; simp only [List.mem_cons, List.not_mem_nil, or_false] at hp; all_goals (first | exact hp.elim | (subst hp; exact ⟨by simp, _, _, rfl⟩) | (rcases hp with rfl | rfl <;> exact ⟨by simp, _, _, rfl⟩) | (rcases hp with rfl | rfl | rfl <;> exact ⟨by simp, _, _, rfl⟩) | (rcases hp with rfl | rfl | rfl | rfl <;> exact ⟨by simp, _, _, rfl⟩) | (rcases hp with rfl | rfl | rfl | rfl | rfl <;> exact ⟨by simp, _, _, rfl⟩))) (op_call ca19 rfl rfl rfl rfl (ihb (by omega)) (.cons (by first | exact .refl _ | exact .toD rfl | exact .nilD | exact .dle rfl (by repeat' (first | exact DLe.refl _ | exact DLe.nil | exact DLeL.nil | exact DLeLL.nil | apply DLe.agg | apply DLe.tup | apply DLe.sl | apply DLe.cp | apply DLeL.cons | apply DLeLL.cons))) .nil) (fun d hd => ?_))
                    obtain rfl := hd
                    refine any_fl 15 rfl rfl rfl rfl (by kernel_rfl) rfl (fl_sadd rfl rfl rfl (by (try simp only [ByteArray.size_append, size_mk, List.size_toArray, List.length_cons, List.length_nil]); omega) ⟨_, rfl, ?_⟩)
                    refine any_fl 16 rfl rfl rfl rfl (by kernel_rfl) rfl (fl_sadd rfl rfl rfl (by (try simp only [ByteArray.size_append, size_mk, List.size_toArray, List.length_cons, List.length_nil]); omega) ⟨_, rfl, ?_⟩)
                    refine any_fl 17 rfl rfl rfl rfl (by kernel_rfl) rfl (fl_assign rfl rfl ⟨_, rfl, ?_⟩)
                    refine any_end (by kernel_rfl) ?_
                    refine seq_normal ?_
                    refine runs_ret ?_
                    refine fin_ret ?_
                    refine fin_d1 rfl rfl ?_
                    rfl
                  )
              )
          )
      )
  | imax a b iha ihb =>
    intro hsz
    simp only [Lev.weight] at hsz
    have h9 := a.print_size
    have h10 := b.print_size
    refine triD_of_runs Tryd.func19 rfl Tryd.ntmps19 (rs := [.tmp 2]) rfl rfl rfl ?_
    refine runs_seq ?_
    refine runs_region ?_
    refine ops_cons (T := fun _ => False) rfl (op_box ti31 rfl rfl rfl rfl rfl (by simp only [List.length_cons, List.length_nil, Nat.reduceAdd]; rfl) rfl ?_)
    refine ops_fl rfl rfl rfl (fl_assign rfl rfl ?_)
    refine ops_nil ?_
    refine seq_normal ?_
    refine runs_seq ?_
    refine runs_seq ?_
    refine runs_region ?_
    first
    | refine ops_fl rfl rfl rfl (fl_field_blk ti31 rfl rfl rfl rfl ?_)
    | refine ops_fl rfl rfl rfl (fl_field_cp ti31 rfl rfl rfl rfl rfl ?_)
    first
    | refine ops_fl rfl rfl rfl (fl_load_blk ti3 rfl rfl rfl rfl rfl rfl rfl ?_)
    | refine ops_fl rfl rfl rfl (fl_load_cp ti3 rfl rfl rfl rfl rfl rfl ?_)
    refine ops_nil ?_
    refine seq_normal ?_
    refine runs_block ?_
    refine runs_seq ?_
    refine runs_region ?_
    refine ops_fl rfl rfl rfl (fl_eql rfl rfl rfl ?_)
    refine ops_fl rfl rfl rfl (fl_assign rfl rfl ?_)
    refine ops_nil ?_
    refine seq_normal ?_
    refine runs_cond rfl (fun h2 => ?_) (fun h2 => ?_)
    · try simp only [decide_eq_true_eq, decide_eq_false_iff_not, Bool.not_eq_true', Bool.not_eq_false', Bool.not_true, Bool.not_false, Int.not_lt, Int.not_le, Bool.and_eq_true, Bool.or_eq_true, Bool.and_eq_false_iff, Bool.or_eq_false_iff, Bool.false_eq_true, Bool.true_eq_false, not_true_eq_false, not_false_eq_true, decide_true, decide_false, true_and, and_true, false_and, and_false, true_or, or_true, false_or, or_false, Bool.true_and, Bool.false_and, Bool.and_true, Bool.and_false, Bool.true_or, Bool.false_or, Bool.or_true, Bool.or_false, Int.reduceEq, Int.reduceNe, Int.reduceLT, Int.reduceLE, Int.toNat_natCast, toNat_add1] at h2
      all_goals (first | contradiction | (exfalso; omega) | (exfalso; simp_all))
    · try simp only [decide_eq_true_eq, decide_eq_false_iff_not, Bool.not_eq_true', Bool.not_eq_false', Bool.not_true, Bool.not_false, Int.not_lt, Int.not_le, Bool.and_eq_true, Bool.or_eq_true, Bool.and_eq_false_iff, Bool.or_eq_false_iff, Bool.false_eq_true, Bool.true_eq_false, not_true_eq_false, not_false_eq_true, decide_true, decide_false, true_and, and_true, false_and, and_false, true_or, or_true, false_or, or_false, Bool.true_and, Bool.false_and, Bool.and_true, Bool.and_false, Bool.true_or, Bool.false_or, Bool.or_true, Bool.or_false, Int.reduceEq, Int.reduceNe, Int.reduceLT, Int.reduceLE, Int.toNat_natCast, toNat_add1] at h2
      all_goals try (first | contradiction | (exfalso; omega))
      all_goals (
        refine runs_seq ?_
        refine runs_keep [5, 1] rfl ?_
        refine runs_region ?_
        refine ops_fl rfl rfl rfl (fl_eql rfl rfl rfl ?_)
        refine ops_fl rfl rfl rfl (fl_assign rfl rfl ?_)
        refine ops_nil ?_
        refine seq_normal ?_
        refine runs_cond rfl (fun h4 => ?_) (fun h4 => ?_)
        · try simp only [decide_eq_true_eq, decide_eq_false_iff_not, Bool.not_eq_true', Bool.not_eq_false', Bool.not_true, Bool.not_false, Int.not_lt, Int.not_le, Bool.and_eq_true, Bool.or_eq_true, Bool.and_eq_false_iff, Bool.or_eq_false_iff, Bool.false_eq_true, Bool.true_eq_false, not_true_eq_false, not_false_eq_true, decide_true, decide_false, true_and, and_true, false_and, and_false, true_or, or_true, false_or, or_false, Bool.true_and, Bool.false_and, Bool.and_true, Bool.and_false, Bool.true_or, Bool.false_or, Bool.or_true, Bool.or_false, Int.reduceEq, Int.reduceNe, Int.reduceLT, Int.reduceLE, Int.toNat_natCast, toNat_add1] at h4
          all_goals (first | contradiction | (exfalso; omega) | (exfalso; simp_all))
        · try simp only [decide_eq_true_eq, decide_eq_false_iff_not, Bool.not_eq_true', Bool.not_eq_false', Bool.not_true, Bool.not_false, Int.not_lt, Int.not_le, Bool.and_eq_true, Bool.or_eq_true, Bool.and_eq_false_iff, Bool.or_eq_false_iff, Bool.false_eq_true, Bool.true_eq_false, not_true_eq_false, not_false_eq_true, decide_true, decide_false, true_and, and_true, false_and, and_false, true_or, or_true, false_or, or_false, Bool.true_and, Bool.false_and, Bool.and_true, Bool.and_false, Bool.true_or, Bool.false_or, Bool.or_true, Bool.or_false, Int.reduceEq, Int.reduceNe, Int.reduceLT, Int.reduceLE, Int.toNat_natCast, toNat_add1] at h4
          all_goals try (first | contradiction | (exfalso; omega))
          all_goals (
            refine runs_seq ?_
            refine runs_region ?_
            refine ops_fl rfl rfl rfl (fl_eql rfl rfl rfl ?_)
            refine ops_fl rfl rfl rfl (fl_assign rfl rfl ?_)
            refine ops_nil ?_
            refine seq_normal ?_
            refine runs_cond rfl (fun h6 => ?_) (fun h6 => ?_)
            · try simp only [decide_eq_true_eq, decide_eq_false_iff_not, Bool.not_eq_true', Bool.not_eq_false', Bool.not_true, Bool.not_false, Int.not_lt, Int.not_le, Bool.and_eq_true, Bool.or_eq_true, Bool.and_eq_false_iff, Bool.or_eq_false_iff, Bool.false_eq_true, Bool.true_eq_false, not_true_eq_false, not_false_eq_true, decide_true, decide_false, true_and, and_true, false_and, and_false, true_or, or_true, false_or, or_false, Bool.true_and, Bool.false_and, Bool.and_true, Bool.and_false, Bool.true_or, Bool.false_or, Bool.or_true, Bool.or_false, Int.reduceEq, Int.reduceNe, Int.reduceLT, Int.reduceLE, Int.toNat_natCast, toNat_add1] at h6
              all_goals (first | contradiction | (exfalso; omega) | (exfalso; simp_all))
            · try simp only [decide_eq_true_eq, decide_eq_false_iff_not, Bool.not_eq_true', Bool.not_eq_false', Bool.not_true, Bool.not_false, Int.not_lt, Int.not_le, Bool.and_eq_true, Bool.or_eq_true, Bool.and_eq_false_iff, Bool.or_eq_false_iff, Bool.false_eq_true, Bool.true_eq_false, not_true_eq_false, not_false_eq_true, decide_true, decide_false, true_and, and_true, false_and, and_false, true_or, or_true, false_or, or_false, Bool.true_and, Bool.false_and, Bool.and_true, Bool.and_false, Bool.true_or, Bool.false_or, Bool.or_true, Bool.or_false, Int.reduceEq, Int.reduceNe, Int.reduceLT, Int.reduceLE, Int.toNat_natCast, toNat_add1] at h6
              all_goals try (first | contradiction | (exfalso; omega))
              all_goals (
                refine runs_skip ?_
                refine inb_normal ?_
                refine seq_normal ?_
                refine runs_seq ?_
                refine runs_keep [1] rfl ?_
                refine runs_region ?_
                refine ops_fl rfl rfl rfl (fl_assign rfl rfl ?_)
                refine ops_nil ?_
                refine seq_normal ?_
                refine runs_seq ?_
                refine runs_seq ?_
                refine runs_region ?_
                first
                | refine ops_fl rfl rfl rfl (fl_field_blk ti31 rfl rfl rfl rfl ?_)
                | refine ops_fl rfl rfl rfl (fl_field_cp ti31 rfl rfl rfl rfl rfl ?_)
                first
                | refine ops_fl rfl rfl rfl (fl_load_blk ti3 rfl rfl rfl rfl rfl rfl rfl ?_)
                | refine ops_fl rfl rfl rfl (fl_load_cp ti3 rfl rfl rfl rfl rfl rfl ?_)
                refine ops_fl rfl rfl rfl (fl_eql rfl rfl rfl ?_)
                refine ops_nil ?_
                refine seq_normal ?_
                refine runs_cond rfl (fun h9 => ?_) (fun h9 => ?_)
                · try simp only [decide_eq_true_eq, decide_eq_false_iff_not, Bool.not_eq_true', Bool.not_eq_false', Bool.not_true, Bool.not_false, Int.not_lt, Int.not_le, Bool.and_eq_true, Bool.or_eq_true, Bool.and_eq_false_iff, Bool.or_eq_false_iff, Bool.false_eq_true, Bool.true_eq_false, not_true_eq_false, not_false_eq_true, decide_true, decide_false, true_and, and_true, false_and, and_false, true_or, or_true, false_or, or_false, Bool.true_and, Bool.false_and, Bool.and_true, Bool.and_false, Bool.true_or, Bool.false_or, Bool.or_true, Bool.or_false, Int.reduceEq, Int.reduceNe, Int.reduceLT, Int.reduceLE, Int.toNat_natCast, toNat_add1] at h9
                  all_goals try (first | contradiction | (exfalso; omega))
                  all_goals (
                    refine runs_keep [1] rfl ?_
                    refine runs_region ?_
                    refine ops_fl rfl rfl rfl (fl_assign rfl rfl ?_)
                    refine ops_nil ?_
                    refine seq_normal ?_
                    refine runs_seq ?_
                    refine any_start mixed rfl rfl ?_
                    refine any_fl 0 rfl rfl rfl rfl (by kernel_rfl) rfl (fl_move rfl rfl ⟨_, rfl, ?_⟩)
                    refine any_fl 1 rfl rfl rfl rfl (by kernel_rfl) rfl (fl_sadd rfl rfl rfl (by (try simp only [ByteArray.size_append, size_mk, List.size_toArray, List.length_cons, List.length_nil]); omega) ⟨_, rfl, ?_⟩)
                    refine any_fl 2 rfl rfl rfl rfl (by kernel_rfl) rfl (fl_sadd rfl rfl rfl (by (try simp only [ByteArray.size_append, size_mk, List.size_toArray, List.length_cons, List.length_nil]); omega) ⟨_, rfl, ?_⟩)
                    first
                    | refine any_fl 3 rfl rfl rfl rfl (by kernel_rfl) rfl (fl_field_blk ti31 rfl rfl rfl rfl ⟨_, rfl, ?_⟩)
                    | refine any_fl 3 rfl rfl rfl rfl (by kernel_rfl) rfl (fl_field_cp ti31 rfl rfl rfl rfl rfl ⟨_, rfl, ?_⟩)
                    first
                    | refine any_fl 4 rfl rfl rfl rfl (by kernel_rfl) rfl (fl_load_blk ti29 rfl rfl rfl rfl rfl rfl rfl ⟨_, rfl, ?_⟩)
                    | refine any_fl 4 rfl rfl rfl rfl (by kernel_rfl) rfl (fl_load_cp ti29 rfl rfl rfl rfl rfl rfl ⟨_, rfl, ?_⟩)
                    first
                    | refine any_fl 5 rfl rfl rfl rfl (by kernel_rfl) rfl (fl_index us29 te29 rfl rfl rfl rfl rfl (by omega) (rfl) ⟨_, rfl, ?_⟩)
                    | refine any_fl 5 rfl rfl rfl rfl (by kernel_rfl) rfl (fl_index_own us29 te29 rfl rfl rfl rfl rfl (by omega) (rfl) ⟨_, rfl, ?_⟩)
                    first
                    | refine any_fl 6 rfl rfl rfl rfl (by kernel_rfl) rfl (fl_load_blk ti31 rfl rfl rfl rfl rfl rfl rfl ⟨_, rfl, ?_⟩)
                    | refine any_fl 6 rfl rfl rfl rfl (by kernel_rfl) rfl (fl_load_cp ti31 rfl rfl rfl rfl rfl rfl ⟨_, rfl, ?_⟩)
                    | refine any_fl 6 rfl rfl rfl rfl (by kernel_rfl) rfl (fl_load_all ti31 rfl rfl rfl rfl (by first | rfl | exact Lvl.cells_len _) ⟨_, rfl, ?_⟩)
                    first
                    | refine any_fl 10 rfl rfl rfl rfl (by kernel_rfl) rfl (fl_field_blk ti31 rfl rfl rfl rfl ⟨_, rfl, ?_⟩)
                    | refine any_fl 10 rfl rfl rfl rfl (by kernel_rfl) rfl (fl_field_cp ti31 rfl rfl rfl rfl rfl ⟨_, rfl, ?_⟩)
                    first
                    | refine any_fl 11 rfl rfl rfl rfl (by kernel_rfl) rfl (fl_load_blk ti29 rfl rfl rfl rfl rfl rfl rfl ⟨_, rfl, ?_⟩)
                    | refine any_fl 11 rfl rfl rfl rfl (by kernel_rfl) rfl (fl_load_cp ti29 rfl rfl rfl rfl rfl rfl ⟨_, rfl, ?_⟩)
                    first
                    | refine any_fl 12 rfl rfl rfl rfl (by kernel_rfl) rfl (fl_index us29 te29 rfl rfl rfl rfl rfl (by omega) (rfl) ⟨_, rfl, ?_⟩)
                    | refine any_fl 12 rfl rfl rfl rfl (by kernel_rfl) rfl (fl_index_own us29 te29 rfl rfl rfl rfl rfl (by omega) (rfl) ⟨_, rfl, ?_⟩)
                    first
                    | refine any_fl 13 rfl rfl rfl rfl (by kernel_rfl) rfl (fl_load_blk ti31 rfl rfl rfl rfl rfl rfl rfl ⟨_, rfl, ?_⟩)
                    | refine any_fl 13 rfl rfl rfl rfl (by kernel_rfl) rfl (fl_load_cp ti31 rfl rfl rfl rfl rfl rfl ⟨_, rfl, ?_⟩)
                    | refine any_fl 13 rfl rfl rfl rfl (by kernel_rfl) rfl (fl_load_all ti31 rfl rfl rfl rfl (by first | rfl | exact Lvl.cells_len _) ⟨_, rfl, ?_⟩)
                    refine any_st (T := fun _ => False) 7 rfl rfl (by kernel_rfl) rfl rfl (by intro p hp; simp only [List.mem_cons, List.not_mem_nil, or_false] at hp; all_goals (first | exact hp.elim | (subst hp; exact ⟨by simp, _, _, rfl⟩) | (rcases hp with rfl | rfl <;> exact ⟨by simp, _, _, rfl⟩) | (rcases hp with rfl | rfl | rfl <;> exact ⟨by simp, _, _, rfl⟩) | (rcases hp with rfl | rfl | rfl | rfl <;> exact ⟨by simp, _, _, rfl⟩) | (rcases hp with rfl | rfl | rfl | rfl | rfl <;> exact ⟨by simp, _, _, rfl⟩))) (op_call ca19 rfl rfl rfl rfl (iha (by omega)) (.cons (by first | exact .refl _ | exact .toD rfl | exact .nilD | exact .dle rfl (by repeat' (first | exact DLe.refl _ | exact DLe.nil | exact DLeL.nil | exact DLeLL.nil | apply DLe.agg | apply DLe.tup | apply DLe.sl | apply DLe.cp | apply DLeL.cons | apply DLeLL.cons))) .nil) (fun d hd => ?_))
                    obtain rfl := hd
                    refine any_fl 8 rfl rfl rfl rfl (by kernel_rfl) rfl (fl_sadd rfl rfl rfl (by (try simp only [ByteArray.size_append, size_mk, List.size_toArray, List.length_cons, List.length_nil]); omega) ⟨_, rfl, ?_⟩)
                    refine any_fl 9 rfl rfl rfl rfl (by kernel_rfl) rfl (fl_sadd rfl rfl rfl (by (try simp only [ByteArray.size_append, size_mk, List.size_toArray, List.length_cons, List.length_nil]); omega) ⟨_, rfl, ?_⟩)
                    refine any_st (T := fun _ => False) 14 rfl rfl (by kernel_rfl) rfl rfl (by intro p hp; simp only [List.mem_cons, List.not_mem_nil, or_false] at hp; all_goals (first | exact hp.elim | (subst hp; exact ⟨by simp, _, _, rfl⟩) | (rcases hp with rfl | rfl <;> exact ⟨by simp, _, _, rfl⟩) | (rcases hp with rfl | rfl | rfl <;> exact ⟨by simp, _, _, rfl⟩) | (rcases hp with rfl | rfl | rfl | rfl <;> exact ⟨by simp, _, _, rfl⟩) | (rcases hp with rfl | rfl | rfl | rfl | rfl <;> exact ⟨by simp, _, _, rfl⟩))) (op_call ca19 rfl rfl rfl rfl (ihb (by omega)) (.cons (by first | exact .refl _ | exact .toD rfl | exact .nilD | exact .dle rfl (by repeat' (first | exact DLe.refl _ | exact DLe.nil | exact DLeL.nil | exact DLeLL.nil | apply DLe.agg | apply DLe.tup | apply DLe.sl | apply DLe.cp | apply DLeL.cons | apply DLeLL.cons))) .nil) (fun d hd => ?_))
                    obtain rfl := hd
                    refine any_fl 15 rfl rfl rfl rfl (by kernel_rfl) rfl (fl_sadd rfl rfl rfl (by (try simp only [ByteArray.size_append, size_mk, List.size_toArray, List.length_cons, List.length_nil]); omega) ⟨_, rfl, ?_⟩)
                    refine any_fl 16 rfl rfl rfl rfl (by kernel_rfl) rfl (fl_sadd rfl rfl rfl (by (try simp only [ByteArray.size_append, size_mk, List.size_toArray, List.length_cons, List.length_nil]); omega) ⟨_, rfl, ?_⟩)
                    refine any_fl 17 rfl rfl rfl rfl (by kernel_rfl) rfl (fl_assign rfl rfl ⟨_, rfl, ?_⟩)
                    refine any_end (by kernel_rfl) ?_
                    refine seq_normal ?_
                    refine runs_ret ?_
                    refine fin_ret ?_
                    refine fin_d1 rfl rfl ?_
                    rfl
                  )
                · try simp only [decide_eq_true_eq, decide_eq_false_iff_not, Bool.not_eq_true', Bool.not_eq_false', Bool.not_true, Bool.not_false, Int.not_lt, Int.not_le, Bool.and_eq_true, Bool.or_eq_true, Bool.and_eq_false_iff, Bool.or_eq_false_iff, Bool.false_eq_true, Bool.true_eq_false, not_true_eq_false, not_false_eq_true, decide_true, decide_false, true_and, and_true, false_and, and_false, true_or, or_true, false_or, or_false, Bool.true_and, Bool.false_and, Bool.and_true, Bool.and_false, Bool.true_or, Bool.false_or, Bool.or_true, Bool.or_false, Int.reduceEq, Int.reduceNe, Int.reduceLT, Int.reduceLE, Int.toNat_natCast, toNat_add1] at h9
                  all_goals (first | contradiction | (exfalso; omega) | (exfalso; simp_all))
              )
          )
      )
  | param s =>
    intro hsz
    refine triD_of_runs Tryd.func19 rfl Tryd.ntmps19 (rs := [.tmp 2]) rfl rfl rfl ?_
    refine runs_seq ?_
    refine runs_region ?_
    refine ops_cons (T := fun _ => False) rfl (op_box ti31 rfl rfl rfl rfl rfl (by simp only [List.length_cons, List.length_nil, Nat.reduceAdd]; rfl) rfl ?_)
    refine ops_fl rfl rfl rfl (fl_assign rfl rfl ?_)
    refine ops_nil ?_
    refine seq_normal ?_
    refine runs_seq ?_
    refine runs_seq ?_
    refine runs_region ?_
    first
    | refine ops_fl rfl rfl rfl (fl_field_blk ti31 rfl rfl rfl rfl ?_)
    | refine ops_fl rfl rfl rfl (fl_field_cp ti31 rfl rfl rfl rfl rfl ?_)
    first
    | refine ops_fl rfl rfl rfl (fl_load_blk ti3 rfl rfl rfl rfl rfl rfl rfl ?_)
    | refine ops_fl rfl rfl rfl (fl_load_cp ti3 rfl rfl rfl rfl rfl rfl ?_)
    refine ops_nil ?_
    refine seq_normal ?_
    refine runs_block ?_
    refine runs_seq ?_
    refine runs_region ?_
    refine ops_fl rfl rfl rfl (fl_eql rfl rfl rfl ?_)
    refine ops_fl rfl rfl rfl (fl_assign rfl rfl ?_)
    refine ops_nil ?_
    refine seq_normal ?_
    refine runs_cond rfl (fun h2 => ?_) (fun h2 => ?_)
    · try simp only [decide_eq_true_eq, decide_eq_false_iff_not, Bool.not_eq_true', Bool.not_eq_false', Bool.not_true, Bool.not_false, Int.not_lt, Int.not_le, Bool.and_eq_true, Bool.or_eq_true, Bool.and_eq_false_iff, Bool.or_eq_false_iff, Bool.false_eq_true, Bool.true_eq_false, not_true_eq_false, not_false_eq_true, decide_true, decide_false, true_and, and_true, false_and, and_false, true_or, or_true, false_or, or_false, Bool.true_and, Bool.false_and, Bool.and_true, Bool.and_false, Bool.true_or, Bool.false_or, Bool.or_true, Bool.or_false, Int.reduceEq, Int.reduceNe, Int.reduceLT, Int.reduceLE, Int.toNat_natCast, toNat_add1] at h2
      all_goals (first | contradiction | (exfalso; omega) | (exfalso; simp_all))
    · try simp only [decide_eq_true_eq, decide_eq_false_iff_not, Bool.not_eq_true', Bool.not_eq_false', Bool.not_true, Bool.not_false, Int.not_lt, Int.not_le, Bool.and_eq_true, Bool.or_eq_true, Bool.and_eq_false_iff, Bool.or_eq_false_iff, Bool.false_eq_true, Bool.true_eq_false, not_true_eq_false, not_false_eq_true, decide_true, decide_false, true_and, and_true, false_and, and_false, true_or, or_true, false_or, or_false, Bool.true_and, Bool.false_and, Bool.and_true, Bool.and_false, Bool.true_or, Bool.false_or, Bool.or_true, Bool.or_false, Int.reduceEq, Int.reduceNe, Int.reduceLT, Int.reduceLE, Int.toNat_natCast, toNat_add1] at h2
      all_goals try (first | contradiction | (exfalso; omega))
      all_goals (
        refine runs_seq ?_
        refine runs_keep [5, 1] rfl ?_
        refine runs_region ?_
        refine ops_fl rfl rfl rfl (fl_eql rfl rfl rfl ?_)
        refine ops_fl rfl rfl rfl (fl_assign rfl rfl ?_)
        refine ops_nil ?_
        refine seq_normal ?_
        refine runs_cond rfl (fun h4 => ?_) (fun h4 => ?_)
        · try simp only [decide_eq_true_eq, decide_eq_false_iff_not, Bool.not_eq_true', Bool.not_eq_false', Bool.not_true, Bool.not_false, Int.not_lt, Int.not_le, Bool.and_eq_true, Bool.or_eq_true, Bool.and_eq_false_iff, Bool.or_eq_false_iff, Bool.false_eq_true, Bool.true_eq_false, not_true_eq_false, not_false_eq_true, decide_true, decide_false, true_and, and_true, false_and, and_false, true_or, or_true, false_or, or_false, Bool.true_and, Bool.false_and, Bool.and_true, Bool.and_false, Bool.true_or, Bool.false_or, Bool.or_true, Bool.or_false, Int.reduceEq, Int.reduceNe, Int.reduceLT, Int.reduceLE, Int.toNat_natCast, toNat_add1] at h4
          all_goals (first | contradiction | (exfalso; omega) | (exfalso; simp_all))
        · try simp only [decide_eq_true_eq, decide_eq_false_iff_not, Bool.not_eq_true', Bool.not_eq_false', Bool.not_true, Bool.not_false, Int.not_lt, Int.not_le, Bool.and_eq_true, Bool.or_eq_true, Bool.and_eq_false_iff, Bool.or_eq_false_iff, Bool.false_eq_true, Bool.true_eq_false, not_true_eq_false, not_false_eq_true, decide_true, decide_false, true_and, and_true, false_and, and_false, true_or, or_true, false_or, or_false, Bool.true_and, Bool.false_and, Bool.and_true, Bool.and_false, Bool.true_or, Bool.false_or, Bool.or_true, Bool.or_false, Int.reduceEq, Int.reduceNe, Int.reduceLT, Int.reduceLE, Int.toNat_natCast, toNat_add1] at h4
          all_goals try (first | contradiction | (exfalso; omega))
          all_goals (
            refine runs_seq ?_
            refine runs_region ?_
            refine ops_fl rfl rfl rfl (fl_eql rfl rfl rfl ?_)
            refine ops_fl rfl rfl rfl (fl_assign rfl rfl ?_)
            refine ops_nil ?_
            refine seq_normal ?_
            refine runs_cond rfl (fun h6 => ?_) (fun h6 => ?_)
            · try simp only [decide_eq_true_eq, decide_eq_false_iff_not, Bool.not_eq_true', Bool.not_eq_false', Bool.not_true, Bool.not_false, Int.not_lt, Int.not_le, Bool.and_eq_true, Bool.or_eq_true, Bool.and_eq_false_iff, Bool.or_eq_false_iff, Bool.false_eq_true, Bool.true_eq_false, not_true_eq_false, not_false_eq_true, decide_true, decide_false, true_and, and_true, false_and, and_false, true_or, or_true, false_or, or_false, Bool.true_and, Bool.false_and, Bool.and_true, Bool.and_false, Bool.true_or, Bool.false_or, Bool.or_true, Bool.or_false, Int.reduceEq, Int.reduceNe, Int.reduceLT, Int.reduceLE, Int.toNat_natCast, toNat_add1] at h6
              all_goals try (first | contradiction | (exfalso; omega))
              all_goals (
                refine runs_seq ?_
                refine runs_keep [1] rfl ?_
                refine runs_region ?_
                first
                | refine ops_fl rfl rfl rfl (fl_field_blk ti31 rfl rfl rfl rfl ?_)
                | refine ops_fl rfl rfl rfl (fl_field_cp ti31 rfl rfl rfl rfl rfl ?_)
                first
                | refine ops_fl rfl rfl rfl (fl_load_blk ti9 rfl rfl rfl rfl rfl rfl rfl ?_)
                | refine ops_fl rfl rfl rfl (fl_load_cp ti9 rfl rfl rfl rfl rfl rfl ?_)
                refine ops_fl rfl rfl rfl (fl_assign rfl rfl ?_)
                refine ops_nil ?_
                refine seq_normal ?_
                refine runs_ret ?_
                refine inb_ret ?_
                refine seq_ret ?_
                refine fin_ret ?_
                refine fin_d1 rfl rfl ?_
                rfl
              )
            · try simp only [decide_eq_true_eq, decide_eq_false_iff_not, Bool.not_eq_true', Bool.not_eq_false', Bool.not_true, Bool.not_false, Int.not_lt, Int.not_le, Bool.and_eq_true, Bool.or_eq_true, Bool.and_eq_false_iff, Bool.or_eq_false_iff, Bool.false_eq_true, Bool.true_eq_false, not_true_eq_false, not_false_eq_true, decide_true, decide_false, true_and, and_true, false_and, and_false, true_or, or_true, false_or, or_false, Bool.true_and, Bool.false_and, Bool.and_true, Bool.and_false, Bool.true_or, Bool.false_or, Bool.or_true, Bool.or_false, Int.reduceEq, Int.reduceNe, Int.reduceLT, Int.reduceLE, Int.toNat_natCast, toNat_add1] at h6
              all_goals (first | contradiction | (exfalso; omega) | (exfalso; simp_all))
          )
      )
end Go.Proofs.YtafhnnbbfgoacaaDoor
