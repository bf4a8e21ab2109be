/-
  What is proved here: contracts of the reference's functions on levels: Worth, SubstLevel, PrintLevel; and of the statements' own: sameNames, limit.
-/
import Derived.Test.YtafhnnbbfgoacaaDoorYLevel
import Derived.Test.YtafhnnbbfgoacaaDoorYR1
set_option linter.unusedSimpArgs false
set_option linter.unusedVariables false
namespace Go.Proofs.YtafhnnbbfgoacaaDoor
open Go Go.Vd Go.RowKit
attribute [local irreducible] Runs OpsR OpR FloatR AnyR
variable {gl : Nat → List D}

theorem limit_spec (n : Int) (h0 : -9223372036854775808 ≤ n) (h1 : n ≤ 9223372036854775807) : TriD Tryd.prog gl 11 [.v (.int .i64 n)] (· = .v (.int .i64 (if n < 0 then (-(n + 1)) % 6 else n % 6))) := by
  refine triD_of_runs Tryd.func11 rfl Tryd.ntmps11 (rs := [.tmp 2]) rfl rfl rfl ?_
  refine runs_seq ?_
  refine runs_region ?_
  refine ops_fl rfl rfl rfl (fl_assign rfl rfl ?_)
  refine ops_nil ?_
  refine seq_normal ?_
  refine runs_seq ?_
  refine runs_seq ?_
  refine runs_region ?_
  refine ops_fl rfl rfl rfl (fl_move rfl rfl ?_)
  refine ops_fl rfl rfl rfl (fl_lss rfl rfl rfl ?_)
  refine ops_nil ?_
  refine seq_normal ?_
  refine runs_cond rfl (fun h1 => ?_) (fun h1 => ?_)
  · try simp only [decide_eq_true_eq, decide_eq_false_iff_not, Bool.not_eq_true', Bool.not_eq_false', Bool.not_true, Bool.not_false, Int.not_lt, Int.not_le, Bool.and_eq_true, Bool.or_eq_true, Bool.and_eq_false_iff, Bool.or_eq_false_iff, Bool.false_eq_true, Bool.true_eq_false, not_true_eq_false, not_false_eq_true, decide_true, decide_false, true_and, and_true, false_and, and_false, true_or, or_true, false_or, or_false, Bool.true_and, Bool.false_and, Bool.and_true, Bool.and_false, Bool.true_or, Bool.false_or, Bool.or_true, Bool.or_false, Int.reduceEq, Int.reduceNe, Int.reduceLT, Int.reduceLE, Int.toNat_natCast, toNat_add1] at h1
    all_goals try (first | contradiction | (exfalso; omega))
    all_goals (
      refine runs_region ?_
      refine ops_fl rfl rfl rfl (fl_move rfl rfl ?_)
      refine ops_fl rfl rfl rfl (fl_add rfl rfl rfl (by omega) ?_)
      refine ops_fl rfl rfl rfl (fl_neg64 rfl rfl (by omega) ?_)
      refine ops_fl rfl rfl rfl (fl_assign rfl rfl ?_)
      refine ops_nil ?_
      refine seq_normal ?_
      refine runs_seq ?_
      refine runs_keep [0] rfl ?_
      refine runs_region ?_
      refine ops_fl rfl rfl rfl (fl_move rfl rfl ?_)
      refine ops_fl rfl rfl rfl (fl_rem rfl rfl rfl (by omega) ?_)
      refine ops_fl rfl rfl rfl (fl_assign rfl rfl ?_)
      refine ops_nil ?_
      refine seq_normal ?_
      refine runs_ret ?_
      refine fin_ret ?_
      refine fin_d1 rfl rfl ?_
      rw [if_pos (by omega)]
    )
  · try simp only [decide_eq_true_eq, decide_eq_false_iff_not, Bool.not_eq_true', Bool.not_eq_false', Bool.not_true, Bool.not_false, Int.not_lt, Int.not_le, Bool.and_eq_true, Bool.or_eq_true, Bool.and_eq_false_iff, Bool.or_eq_false_iff, Bool.false_eq_true, Bool.true_eq_false, not_true_eq_false, not_false_eq_true, decide_true, decide_false, true_and, and_true, false_and, and_false, true_or, or_true, false_or, or_false, Bool.true_and, Bool.false_and, Bool.and_true, Bool.and_false, Bool.true_or, Bool.false_or, Bool.or_true, Bool.or_false, Int.reduceEq, Int.reduceNe, Int.reduceLT, Int.reduceLE, Int.toNat_natCast, toNat_add1] at h1
    all_goals try (first | contradiction | (exfalso; omega))
    all_goals (
      refine runs_skip ?_
      refine seq_normal ?_
      refine runs_seq ?_
      refine runs_region ?_
      refine ops_fl rfl rfl rfl (fl_move rfl rfl ?_)
      refine ops_fl rfl rfl rfl (fl_rem rfl rfl rfl (by omega) ?_)
      refine ops_fl rfl rfl rfl (fl_assign rfl rfl ?_)
      refine ops_nil ?_
      refine seq_normal ?_
      refine runs_ret ?_
      refine fin_ret ?_
      refine fin_d1 rfl rfl ?_
      rw [if_neg (by omega)]
    )

theorem sameNames_spec (a b : List ByteArray) (ha : a.length ≤ 281474976710656) : TriD Tryd.prog gl 18 [strsD a, strsD b] (· = .v (.bool (decide (a = b)))) := by
  have hla := strs_len a
  have hlb := strs_len b
  refine triD_of_runs Tryd.func18 rfl Tryd.ntmps18 (rs := [.tmp 4]) rfl rfl rfl ?_
  refine runs_seq ?_
  refine runs_region ?_
  refine ops_fl rfl rfl rfl (fl_assign rfl rfl ?_)
  refine ops_nil ?_
  refine seq_normal ?_
  refine runs_seq ?_
  refine runs_seq ?_
  refine runs_region ?_
  refine ops_fl rfl rfl rfl (fl_move rfl rfl ?_)
  first
  | refine ops_fl rfl rfl rfl (fl_len us36 rfl rfl ?_)
  | refine ops_fl rfl rfl rfl (fl_len_own us36 rfl rfl ?_)
  | refine ops_fl rfl rfl rfl (fl_len_nil us36 rfl rfl ?_)
  refine ops_fl rfl rfl rfl (fl_move rfl rfl ?_)
  first
  | refine ops_fl rfl rfl rfl (fl_len us36 rfl rfl ?_)
  | refine ops_fl rfl rfl rfl (fl_len_own us36 rfl rfl ?_)
  | refine ops_fl rfl rfl rfl (fl_len_nil us36 rfl rfl ?_)
  refine ops_fl rfl rfl rfl (fl_neq rfl rfl rfl ?_)
  refine ops_nil ?_
  refine seq_normal ?_
  refine runs_cond rfl (fun h1 => ?_) (fun h1 => ?_)
  · try simp only [decide_eq_true_eq, decide_eq_false_iff_not, Bool.not_eq_true', Bool.not_eq_false', Bool.not_true, Bool.not_false, Int.not_lt, Int.not_le, Bool.and_eq_true, Bool.or_eq_true, Bool.and_eq_false_iff, Bool.or_eq_false_iff, Bool.false_eq_true, Bool.true_eq_false, not_true_eq_false, not_false_eq_true, decide_true, decide_false, true_and, and_true, false_and, and_false, true_or, or_true, false_or, or_false, Bool.true_and, Bool.false_and, Bool.and_true, Bool.and_false, Bool.true_or, Bool.false_or, Bool.or_true, Bool.or_false, Int.reduceEq, Int.reduceNe, Int.reduceLT, Int.reduceLE, Int.toNat_natCast, toNat_add1] at h1
    all_goals try (first | contradiction | (exfalso; omega))
    all_goals (
      refine runs_seq ?_
      refine runs_keep [] rfl ?_
      refine runs_region ?_
      refine ops_fl rfl rfl rfl (fl_assign rfl rfl ?_)
      refine ops_nil ?_
      refine seq_normal ?_
      refine runs_ret ?_
      refine seq_ret ?_
      refine fin_ret ?_
      refine fin_d1 rfl rfl ?_
      rw [decide_eq_false]
      intro e; subst e; omega
    )
  · try simp only [decide_eq_true_eq, decide_eq_false_iff_not, Bool.not_eq_true', Bool.not_eq_false', Bool.not_true, Bool.not_false, Int.not_lt, Int.not_le, Bool.and_eq_true, Bool.or_eq_true, Bool.and_eq_false_iff, Bool.or_eq_false_iff, Bool.false_eq_true, Bool.true_eq_false, not_true_eq_false, not_false_eq_true, decide_true, decide_false, true_and, and_true, false_and, and_false, true_or, or_true, false_or, or_false, Bool.true_and, Bool.false_and, Bool.and_true, Bool.and_false, Bool.true_or, Bool.false_or, Bool.or_true, Bool.or_false, Int.reduceEq, Int.reduceNe, Int.reduceLT, Int.reduceLE, Int.toNat_natCast, toNat_add1] at h1
    all_goals try (first | contradiction | (exfalso; omega))
    all_goals (
      refine runs_skip ?_
      refine seq_normal ?_
      refine runs_seq ?_
      refine runs_seq ?_
      refine runs_keep [0, 1] rfl ?_
      refine runs_region ?_
      refine ops_fl rfl rfl rfl (fl_assign rfl rfl ?_)
      refine ops_nil ?_
      refine seq_normal ?_
      refine runs_block ?_
      apply runs_loop_c (ι := Nat) (fun i => [(5, int i)]) [0, 1] (fun i => i ≤ a.length ∧ a.take i = b.take i) (fun i => a.length - i) (0)
      case hk => exact rfl
      case hI =>
        exact ⟨Nat.zero_le _, rfl⟩
      case hm =>
        refine meets_of rfl rfl rfl ?_ (.cons rfl (by first | exact .refl _ | exact .toD rfl | exact .nilD | exact Fit.of_eq rfl | exact .dle rfl (by repeat' (first | exact DLe.refl _ | exact DLe.nil | exact DLeL.nil | exact DLeLL.nil | apply DLe.agg | apply DLe.tup | apply DLe.sl | apply DLe.cp | apply DLeL.cons | apply DLeLL.cons))) (.cons rfl (by first | exact .refl _ | exact .toD rfl | exact .nilD | exact Fit.of_eq rfl | exact .dle rfl (by repeat' (first | exact DLe.refl _ | exact DLe.nil | exact DLeL.nil | exact DLeLL.nil | apply DLe.agg | apply DLe.tup | apply DLe.sl | apply DLe.cp | apply DLeL.cons | apply DLeLL.cons))) (.cons rfl (by first | exact .refl _ | exact .toD rfl | exact .nilD | exact Fit.of_eq rfl | exact .dle rfl (by repeat' (first | exact DLe.refl _ | exact DLe.nil | exact DLeL.nil | exact DLeLL.nil | apply DLe.agg | apply DLe.tup | apply DLe.sl | apply DLe.cp | apply DLeL.cons | apply DLeLL.cons))) .nil)))
        repeat (first | exact .nil | refine .cons rfl (.cells rfl (FitL.rfl _)) ?_ | refine .cons rfl (.cells rfl (by repeat (first | exact .nil | refine .cons (by first | exact .refl _ | exact .toD rfl | exact .nil rfl | exact .nilD | exact Fit.of_eq rfl) ?_))) ?_ | refine .cons rfl .row ?_ | refine .cons rfl .mapI ?_ | refine .cons rfl .nnrow ?_ | refine .cons rfl .nrow ?_ | refine .cons rfl .dead ?_)
      case h =>
        rintro i hinv
        try dsimp only at hinv
        refine runs_keep [5, 0, 1] rfl ?_
        refine runs_seq ?_
        refine runs_seq ?_
        refine runs_region ?_
        refine ops_fl rfl rfl rfl (fl_move rfl rfl ?_)
        refine ops_fl rfl rfl rfl (fl_move rfl rfl ?_)
        first
        | refine ops_fl rfl rfl rfl (fl_len us36 rfl rfl ?_)
        | refine ops_fl rfl rfl rfl (fl_len_own us36 rfl rfl ?_)
        | refine ops_fl rfl rfl rfl (fl_len_nil us36 rfl rfl ?_)
        refine ops_fl rfl rfl rfl (fl_lss rfl rfl rfl ?_)
        refine ops_nil ?_
        refine seq_normal ?_
        refine runs_cond rfl (fun h4 => ?_) (fun h4 => ?_)
        · try simp only [decide_eq_true_eq, decide_eq_false_iff_not, Bool.not_eq_true', Bool.not_eq_false', Bool.not_true, Bool.not_false, Int.not_lt, Int.not_le, Bool.and_eq_true, Bool.or_eq_true, Bool.and_eq_false_iff, Bool.or_eq_false_iff, Bool.false_eq_true, Bool.true_eq_false, not_true_eq_false, not_false_eq_true, decide_true, decide_false, true_and, and_true, false_and, and_false, true_or, or_true, false_or, or_false, Bool.true_and, Bool.false_and, Bool.and_true, Bool.and_false, Bool.true_or, Bool.false_or, Bool.or_true, Bool.or_false, Int.reduceEq, Int.reduceNe, Int.reduceLT, Int.reduceLE, Int.toNat_natCast, toNat_add1] at h4
          all_goals try (first | contradiction | (exfalso; omega))
          all_goals (
            refine runs_skip ?_
            refine seq_normal ?_
            refine runs_seq ?_
            refine runs_block ?_
            refine runs_seq ?_
            refine runs_keep [5, 0, 1] rfl ?_
            refine any_start mixed rfl rfl ?_
            refine any_fl 0 rfl rfl rfl rfl (by kernel_rfl) rfl (fl_move rfl rfl ⟨_, rfl, ?_⟩)
            refine any_fl 1 rfl rfl rfl rfl (by kernel_rfl) rfl (fl_move rfl rfl ⟨_, rfl, ?_⟩)
            first
            | refine any_fl 2 rfl rfl rfl rfl (by kernel_rfl) rfl (fl_index us36 te36 rfl rfl rfl rfl rfl (by omega) (str_at (by omega)) ⟨_, rfl, ?_⟩)
            | refine any_fl 2 rfl rfl rfl rfl (by kernel_rfl) rfl (fl_index_own us36 te36 rfl rfl rfl rfl rfl (by omega) (str_at (by omega)) ⟨_, rfl, ?_⟩)
            first
            | refine any_fl 3 rfl rfl rfl rfl (by kernel_rfl) rfl (fl_load_blk ti9 rfl rfl rfl rfl rfl rfl rfl ⟨_, rfl, ?_⟩)
            | refine any_fl 3 rfl rfl rfl rfl (by kernel_rfl) rfl (fl_load_cp ti9 rfl rfl rfl rfl rfl rfl ⟨_, rfl, ?_⟩)
            refine any_fl 4 rfl rfl rfl rfl (by kernel_rfl) rfl (fl_move rfl rfl ⟨_, rfl, ?_⟩)
            refine any_fl 5 rfl rfl rfl rfl (by kernel_rfl) rfl (fl_move rfl rfl ⟨_, rfl, ?_⟩)
            first
            | refine any_fl 6 rfl rfl rfl rfl (by kernel_rfl) rfl (fl_index us36 te36 rfl rfl rfl rfl rfl (by omega) (str_at (by omega)) ⟨_, rfl, ?_⟩)
            | refine any_fl 6 rfl rfl rfl rfl (by kernel_rfl) rfl (fl_index_own us36 te36 rfl rfl rfl rfl rfl (by omega) (str_at (by omega)) ⟨_, rfl, ?_⟩)
            first
            | refine any_fl 7 rfl rfl rfl rfl (by kernel_rfl) rfl (fl_load_blk ti9 rfl rfl rfl rfl rfl rfl rfl ⟨_, rfl, ?_⟩)
            | refine any_fl 7 rfl rfl rfl rfl (by kernel_rfl) rfl (fl_load_cp ti9 rfl rfl rfl rfl rfl rfl ⟨_, rfl, ?_⟩)
            refine any_fl 8 rfl rfl rfl rfl (by kernel_rfl) rfl (fl_sneq rfl rfl rfl ⟨_, rfl, ?_⟩)
            refine any_end (by kernel_rfl) ?_
            refine seq_normal ?_
            refine runs_cond rfl (fun h6 => ?_) (fun h6 => ?_)
            · try simp only [decide_eq_true_eq, decide_eq_false_iff_not, Bool.not_eq_true', Bool.not_eq_false', Bool.not_true, Bool.not_false, Int.not_lt, Int.not_le, Bool.and_eq_true, Bool.or_eq_true, Bool.and_eq_false_iff, Bool.or_eq_false_iff, Bool.false_eq_true, Bool.true_eq_false, not_true_eq_false, not_false_eq_true, decide_true, decide_false, true_and, and_true, false_and, and_false, true_or, or_true, false_or, or_false, Bool.true_and, Bool.false_and, Bool.and_true, Bool.and_false, Bool.true_or, Bool.false_or, Bool.or_true, Bool.or_false, Int.reduceEq, Int.reduceNe, Int.reduceLT, Int.reduceLE, Int.toNat_natCast, toNat_add1] at h6
              all_goals try (first | contradiction | (exfalso; omega))
              all_goals (
                refine runs_seq ?_
                refine runs_keep [] rfl ?_
                refine runs_region ?_
                refine ops_fl rfl rfl rfl (fl_assign rfl rfl ?_)
                refine ops_nil ?_
                refine seq_normal ?_
                refine runs_ret ?_
                refine inb_ret ?_
                refine seq_ret ?_
                refine seq_ret ?_
                refine inb_ret ?_
                refine seq_ret ?_
                refine fin_ret ?_
                refine fin_d1 rfl rfl ?_
                rw [decide_eq_false]
                intro e; subst e; exact h6 rfl
              )
            · try simp only [decide_eq_true_eq, decide_eq_false_iff_not, Bool.not_eq_true', Bool.not_eq_false', Bool.not_true, Bool.not_false, Int.not_lt, Int.not_le, Bool.and_eq_true, Bool.or_eq_true, Bool.and_eq_false_iff, Bool.or_eq_false_iff, Bool.false_eq_true, Bool.true_eq_false, not_true_eq_false, not_false_eq_true, decide_true, decide_false, true_and, and_true, false_and, and_false, true_or, or_true, false_or, or_false, Bool.true_and, Bool.false_and, Bool.and_true, Bool.and_false, Bool.true_or, Bool.false_or, Bool.or_true, Bool.or_false, Int.reduceEq, Int.reduceNe, Int.reduceLT, Int.reduceLE, Int.toNat_natCast, toNat_add1] at h6
              all_goals try (first | contradiction | (exfalso; omega))
              all_goals (
                refine runs_skip ?_
                refine inb_normal ?_
                refine seq_normal ?_
                refine runs_keep [5, 0, 1] rfl ?_
                refine runs_region ?_
                refine ops_fl rfl rfl rfl (fl_move rfl rfl ?_)
                refine ops_fl rfl rfl rfl (fl_add rfl rfl rfl (by omega) ?_)
                refine ops_fl rfl rfl rfl (fl_assign rfl rfl ?_)
                refine ops_nil ?_
                refine seq_back ?_
                refine back_i (i + 1) rfl ?_ ?_
                · exact ⟨⟨by omega, by rw [List.take_add_one, List.take_add_one, hinv.2, List.getElem?_eq_getElem (show i < a.length by omega), List.getElem?_eq_getElem (show i < b.length by omega), h6]⟩, by omega⟩
                · refine meets_of rfl rfl rfl ?_ (.cons rfl (by first | exact .refl _ | exact .toD rfl | exact .nilD | exact Fit.of_eq rfl | exact .dle rfl (by repeat' (first | exact DLe.refl _ | exact DLe.nil | exact DLeL.nil | exact DLeLL.nil | apply DLe.agg | apply DLe.tup | apply DLe.sl | apply DLe.cp | apply DLeL.cons | apply DLeLL.cons))) (.cons rfl (by first | exact .refl _ | exact .toD rfl | exact .nilD | exact Fit.of_eq rfl | exact .dle rfl (by repeat' (first | exact DLe.refl _ | exact DLe.nil | exact DLeL.nil | exact DLeLL.nil | apply DLe.agg | apply DLe.tup | apply DLe.sl | apply DLe.cp | apply DLeL.cons | apply DLeLL.cons))) (.cons rfl (by first | exact .refl _ | exact .toD rfl | exact .nilD | exact Fit.of_eq rfl | exact .dle rfl (by repeat' (first | exact DLe.refl _ | exact DLe.nil | exact DLeL.nil | exact DLeLL.nil | apply DLe.agg | apply DLe.tup | apply DLe.sl | apply DLe.cp | apply DLeL.cons | apply DLeLL.cons))) .nil)))
                  repeat (first | exact .nil | refine .cons rfl (.cells rfl (FitL.rfl _)) ?_ | refine .cons rfl (.cells rfl (by repeat (first | exact .nil | refine .cons (by first | exact .refl _ | exact .toD rfl | exact .nil rfl | exact .nilD | exact Fit.of_eq rfl) ?_))) ?_ | refine .cons rfl .row ?_ | refine .cons rfl .mapI ?_ | refine .cons rfl .nnrow ?_ | refine .cons rfl .nrow ?_ | refine .cons rfl .dead ?_)
              )
          )
        · try simp only [decide_eq_true_eq, decide_eq_false_iff_not, Bool.not_eq_true', Bool.not_eq_false', Bool.not_true, Bool.not_false, Int.not_lt, Int.not_le, Bool.and_eq_true, Bool.or_eq_true, Bool.and_eq_false_iff, Bool.or_eq_false_iff, Bool.false_eq_true, Bool.true_eq_false, not_true_eq_false, not_false_eq_true, decide_true, decide_false, true_and, and_true, false_and, and_false, true_or, or_true, false_or, or_false, Bool.true_and, Bool.false_and, Bool.and_true, Bool.and_false, Bool.true_or, Bool.false_or, Bool.or_true, Bool.or_false, Int.reduceEq, Int.reduceNe, Int.reduceLT, Int.reduceLE, Int.toNat_natCast, toNat_add1] at h4
          all_goals try (first | contradiction | (exfalso; omega))
          all_goals (
            refine runs_exit ?_
            refine seq_exit ?_
            refine seq_exit ?_
            refine inb_exit ?_
            refine seq_normal ?_
            refine runs_seq ?_
            refine runs_keep [] rfl ?_
            refine runs_region ?_
            refine ops_fl rfl rfl rfl (fl_assign rfl rfl ?_)
            refine ops_nil ?_
            refine seq_normal ?_
            refine runs_ret ?_
            refine fin_ret ?_
            refine fin_d1 rfl rfl ?_
            have h := hinv.2
            rw [List.take_of_length_le (by omega), List.take_of_length_le (by omega)] at h
            rw [decide_eq_true h]
          )
    )

theorem worth_spec (ps : List ByteArray) (ns : List Int) (hl : ps.length ≤ ns.length) (hl2 : ps.length ≤ 281474976710656) (hB : ∀ n ∈ ns, -1099511627776 ≤ n ∧ n ≤ 1099511627776) : ∀ x : Lev, x.size ≤ 1073741824 →
    TriD Tryd.prog gl 23 [x.toLvl.d, strsD ps, intsD ns] (· = .v (.int .i64 (x.worth (pval ps ns)))) := by
  have hlp := strs_len ps
  have hln := ints_len ns
  have hbd : ∀ x : Lev, -1099511627776 ≤ x.worth (pval ps ns) ∧ x.worth (pval ps ns) ≤ 1099511627776 + x.size := fun x => x.worth_bound (by omega) fun s => pval_bound (by omega) hB
  intro x
  induction x with
  | zero =>
    intro hsz
    refine triD_of_runs Tryd.func23 rfl Tryd.ntmps23 (rs := [.tmp 6]) rfl rfl rfl ?_
    refine runs_seq ?_
    refine runs_region ?_
    refine ops_cons (T := fun _ => False) rfl (op_box ti31 rfl rfl rfl rfl rfl (by simp only [List.length_cons, List.length_nil, Nat.reduceAdd]; rfl) rfl ?_)
    refine ops_fl rfl rfl rfl (fl_assign rfl rfl ?_)
    refine ops_nil ?_
    refine seq_normal ?_
    refine runs_seq ?_
    refine runs_seq ?_
    refine runs_region ?_
    first
    | refine ops_fl rfl rfl rfl (fl_field_blk ti31 rfl rfl rfl rfl ?_)
    | refine ops_fl rfl rfl rfl (fl_field_cp ti31 rfl rfl rfl rfl rfl ?_)
    first
    | refine ops_fl rfl rfl rfl (fl_load_blk ti3 rfl rfl rfl rfl rfl rfl rfl ?_)
    | refine ops_fl rfl rfl rfl (fl_load_cp ti3 rfl rfl rfl rfl rfl rfl ?_)
    refine ops_nil ?_
    refine seq_normal ?_
    refine runs_block ?_
    refine runs_seq ?_
    refine runs_region ?_
    refine ops_fl rfl rfl rfl (fl_eql rfl rfl rfl ?_)
    refine ops_fl rfl rfl rfl (fl_assign rfl rfl ?_)
    refine ops_nil ?_
    refine seq_normal ?_
    refine runs_cond rfl (fun h2 => ?_) (fun h2 => ?_)
    · try simp only [decide_eq_true_eq, decide_eq_false_iff_not, Bool.not_eq_true', Bool.not_eq_false', Bool.not_true, Bool.not_false, Int.not_lt, Int.not_le, Bool.and_eq_true, Bool.or_eq_true, Bool.and_eq_false_iff, Bool.or_eq_false_iff, Bool.false_eq_true, Bool.true_eq_false, not_true_eq_false, not_false_eq_true, decide_true, decide_false, true_and, and_true, false_and, and_false, true_or, or_true, false_or, or_false, Bool.true_and, Bool.false_and, Bool.and_true, Bool.and_false, Bool.true_or, Bool.false_or, Bool.or_true, Bool.or_false, Int.reduceEq, Int.reduceNe, Int.reduceLT, Int.reduceLE, Int.toNat_natCast, toNat_add1] at h2
      all_goals try (first | contradiction | (exfalso; omega))
      all_goals (
        refine runs_seq ?_
        refine runs_keep [] rfl ?_
        refine runs_region ?_
        refine ops_fl rfl rfl rfl (fl_assign rfl rfl ?_)
        refine ops_nil ?_
        refine seq_normal ?_
        refine runs_ret ?_
        refine inb_ret ?_
        refine seq_ret ?_
        refine fin_ret ?_
        refine fin_d1 rfl rfl ?_
        rfl
      )
    · try simp only [decide_eq_true_eq, decide_eq_false_iff_not, Bool.not_eq_true', Bool.not_eq_false', Bool.not_true, Bool.not_false, Int.not_lt, Int.not_le, Bool.and_eq_true, Bool.or_eq_true, Bool.and_eq_false_iff, Bool.or_eq_false_iff, Bool.false_eq_true, Bool.true_eq_false, not_true_eq_false, not_false_eq_true, decide_true, decide_false, true_and, and_true, false_and, and_false, true_or, or_true, false_or, or_false, Bool.true_and, Bool.false_and, Bool.and_true, Bool.and_false, Bool.true_or, Bool.false_or, Bool.or_true, Bool.or_false, Int.reduceEq, Int.reduceNe, Int.reduceLT, Int.reduceLE, Int.toNat_natCast, toNat_add1] at h2
      all_goals (first | contradiction | (exfalso; omega) | (exfalso; simp_all))
  | succ a ih =>
    intro hsz
    simp only [Lev.size] at hsz
    have h9 := hbd a
    refine triD_of_runs Tryd.func23 rfl Tryd.ntmps23 (rs := [.tmp 6]) rfl rfl rfl ?_
    refine runs_seq ?_
    refine runs_region ?_
    refine ops_cons (T := fun _ => False) rfl (op_box ti31 rfl rfl rfl rfl rfl (by simp only [List.length_cons, List.length_nil, Nat.reduceAdd]; rfl) rfl ?_)
    refine ops_fl rfl rfl rfl (fl_assign rfl rfl ?_)
    refine ops_nil ?_
    refine seq_normal ?_
    refine runs_seq ?_
    refine runs_seq ?_
    refine runs_region ?_
    first
    | refine ops_fl rfl rfl rfl (fl_field_blk ti31 rfl rfl rfl rfl ?_)
    | refine ops_fl rfl rfl rfl (fl_field_cp ti31 rfl rfl rfl rfl rfl ?_)
    first
    | refine ops_fl rfl rfl rfl (fl_load_blk ti3 rfl rfl rfl rfl rfl rfl rfl ?_)
    | refine ops_fl rfl rfl rfl (fl_load_cp ti3 rfl rfl rfl rfl rfl rfl ?_)
    refine ops_nil ?_
    refine seq_normal ?_
    refine runs_block ?_
    refine runs_seq ?_
    refine runs_region ?_
    refine ops_fl rfl rfl rfl (fl_eql rfl rfl rfl ?_)
    refine ops_fl rfl rfl rfl (fl_assign rfl rfl ?_)
    refine ops_nil ?_
    refine seq_normal ?_
    refine runs_cond rfl (fun h2 => ?_) (fun h2 => ?_)
    · try simp only [decide_eq_true_eq, decide_eq_false_iff_not, Bool.not_eq_true', Bool.not_eq_false', Bool.not_true, Bool.not_false, Int.not_lt, Int.not_le, Bool.and_eq_true, Bool.or_eq_true, Bool.and_eq_false_iff, Bool.or_eq_false_iff, Bool.false_eq_true, Bool.true_eq_false, not_true_eq_false, not_false_eq_true, decide_true, decide_false, true_and, and_true, false_and, and_false, true_or, or_true, false_or, or_false, Bool.true_and, Bool.false_and, Bool.and_true, Bool.and_false, Bool.true_or, Bool.false_or, Bool.or_true, Bool.or_false, Int.reduceEq, Int.reduceNe, Int.reduceLT, Int.reduceLE, Int.toNat_natCast, toNat_add1] at h2
      all_goals (first | contradiction | (exfalso; omega) | (exfalso; simp_all))
    · try simp only [decide_eq_true_eq, decide_eq_false_iff_not, Bool.not_eq_true', Bool.not_eq_false', Bool.not_true, Bool.not_false, Int.not_lt, Int.not_le, Bool.and_eq_true, Bool.or_eq_true, Bool.and_eq_false_iff, Bool.or_eq_false_iff, Bool.false_eq_true, Bool.true_eq_false, not_true_eq_false, not_false_eq_true, decide_true, decide_false, true_and, and_true, false_and, and_false, true_or, or_true, false_or, or_false, Bool.true_and, Bool.false_and, Bool.and_true, Bool.and_false, Bool.true_or, Bool.false_or, Bool.or_true, Bool.or_false, Int.reduceEq, Int.reduceNe, Int.reduceLT, Int.reduceLE, Int.toNat_natCast, toNat_add1] at h2
      all_goals try (first | contradiction | (exfalso; omega))
      all_goals (
        refine runs_seq ?_
        refine runs_keep [11, 3, 1, 2] rfl ?_
        refine runs_region ?_
        refine ops_fl rfl rfl rfl (fl_eql rfl rfl rfl ?_)
        refine ops_fl rfl rfl rfl (fl_assign rfl rfl ?_)
        refine ops_nil ?_
        refine seq_normal ?_
        refine runs_cond rfl (fun h4 => ?_) (fun h4 => ?_)
        · try simp only [decide_eq_true_eq, decide_eq_false_iff_not, Bool.not_eq_true', Bool.not_eq_false', Bool.not_true, Bool.not_false, Int.not_lt, Int.not_le, Bool.and_eq_true, Bool.or_eq_true, Bool.and_eq_false_iff, Bool.or_eq_false_iff, Bool.false_eq_true, Bool.true_eq_false, not_true_eq_false, not_false_eq_true, decide_true, decide_false, true_and, and_true, false_and, and_false, true_or, or_true, false_or, or_false, Bool.true_and, Bool.false_and, Bool.and_true, Bool.and_false, Bool.true_or, Bool.false_or, Bool.or_true, Bool.or_false, Int.reduceEq, Int.reduceNe, Int.reduceLT, Int.reduceLE, Int.toNat_natCast, toNat_add1] at h4
          all_goals try (first | contradiction | (exfalso; omega))
          all_goals (
            refine runs_seq ?_
            refine runs_region ?_
            first
            | refine ops_fl rfl rfl rfl (fl_field_blk ti31 rfl rfl rfl rfl ?_)
            | refine ops_fl rfl rfl rfl (fl_field_cp ti31 rfl rfl rfl rfl rfl ?_)
            first
            | refine ops_fl rfl rfl rfl (fl_load_blk ti29 rfl rfl rfl rfl rfl rfl rfl ?_)
            | refine ops_fl rfl rfl rfl (fl_load_cp ti29 rfl rfl rfl rfl rfl rfl ?_)
            first
            | refine ops_fl rfl rfl rfl (fl_index us29 te29 rfl rfl rfl rfl rfl (by omega) (rfl) ?_)
            | refine ops_fl rfl rfl rfl (fl_index_own us29 te29 rfl rfl rfl rfl rfl (by omega) (rfl) ?_)
            first
            | refine ops_fl rfl rfl rfl (fl_load_blk ti31 rfl rfl rfl rfl rfl rfl rfl ?_)
            | refine ops_fl rfl rfl rfl (fl_load_cp ti31 rfl rfl rfl rfl rfl rfl ?_)
            | refine ops_fl rfl rfl rfl (fl_load_all ti31 rfl rfl rfl rfl (by first | rfl | exact Lvl.cells_len _) ?_)
            refine ops_fl rfl rfl rfl (fl_move rfl rfl ?_)
            refine ops_fl rfl rfl rfl (fl_move rfl rfl ?_)
            refine ops_cons (T := fun _ => False) rfl (op_call ca23 rfl rfl rfl rfl (ih (by omega)) (.cons (by first | exact .refl _ | exact .toD rfl | exact .nilD | exact .dle rfl (by repeat' (first | exact DLe.refl _ | exact DLe.nil | exact DLeL.nil | exact DLeLL.nil | apply DLe.agg | apply DLe.tup | apply DLe.sl | apply DLe.cp | apply DLeL.cons | apply DLeLL.cons))) (.cons (by first | exact .refl _ | exact .toD rfl | exact .nilD | exact .dle rfl (by repeat' (first | exact DLe.refl _ | exact DLe.nil | exact DLeL.nil | exact DLeLL.nil | apply DLe.agg | apply DLe.tup | apply DLe.sl | apply DLe.cp | apply DLeL.cons | apply DLeLL.cons))) (.cons (by first | exact .refl _ | exact .toD rfl | exact .nilD | exact .dle rfl (by repeat' (first | exact DLe.refl _ | exact DLe.nil | exact DLeL.nil | exact DLeLL.nil | apply DLe.agg | apply DLe.tup | apply DLe.sl | apply DLe.cp | apply DLeL.cons | apply DLeLL.cons))) .nil))) (fun d hd => ?_))
            obtain rfl := hd
            refine ops_fl rfl rfl rfl (fl_add rfl rfl rfl (by omega) ?_)
            refine ops_fl rfl rfl rfl (fl_assign rfl rfl ?_)
            refine ops_nil ?_
            refine seq_normal ?_
            refine runs_ret ?_
            refine inb_ret ?_
            refine seq_ret ?_
            refine fin_ret ?_
            refine fin_d1 rfl rfl ?_
            rfl
          )
        · try simp only [decide_eq_true_eq, decide_eq_false_iff_not, Bool.not_eq_true', Bool.not_eq_false', Bool.not_true, Bool.not_false, Int.not_lt, Int.not_le, Bool.and_eq_true, Bool.or_eq_true, Bool.and_eq_false_iff, Bool.or_eq_false_iff, Bool.false_eq_true, Bool.true_eq_false, not_true_eq_false, not_false_eq_true, decide_true, decide_false, true_and, and_true, false_and, and_false, true_or, or_true, false_or, or_false, Bool.true_and, Bool.false_and, Bool.and_true, Bool.and_false, Bool.true_or, Bool.false_or, Bool.or_true, Bool.or_false, Int.reduceEq, Int.reduceNe, Int.reduceLT, Int.reduceLE, Int.toNat_natCast, toNat_add1] at h4
          all_goals (first | contradiction | (exfalso; omega) | (exfalso; simp_all))
      )
  | param s =>
    intro hsz
    refine triD_of_runs Tryd.func23 rfl Tryd.ntmps23 (rs := [.tmp 6]) rfl rfl rfl ?_
    refine runs_seq ?_
    refine runs_region ?_
    refine ops_cons (T := fun _ => False) rfl (op_box ti31 rfl rfl rfl rfl rfl (by simp only [List.length_cons, List.length_nil, Nat.reduceAdd]; rfl) rfl ?_)
    refine ops_fl rfl rfl rfl (fl_assign rfl rfl ?_)
    refine ops_nil ?_
    refine seq_normal ?_
    refine runs_seq ?_
    refine runs_seq ?_
    refine runs_region ?_
    first
    | refine ops_fl rfl rfl rfl (fl_field_blk ti31 rfl rfl rfl rfl ?_)
    | refine ops_fl rfl rfl rfl (fl_field_cp ti31 rfl rfl rfl rfl rfl ?_)
    first
    | refine ops_fl rfl rfl rfl (fl_load_blk ti3 rfl rfl rfl rfl rfl rfl rfl ?_)
    | refine ops_fl rfl rfl rfl (fl_load_cp ti3 rfl rfl rfl rfl rfl rfl ?_)
    refine ops_nil ?_
    refine seq_normal ?_
    refine runs_block ?_
    refine runs_seq ?_
    refine runs_region ?_
    refine ops_fl rfl rfl rfl (fl_eql rfl rfl rfl ?_)
    refine ops_fl rfl rfl rfl (fl_assign rfl rfl ?_)
    refine ops_nil ?_
    refine seq_normal ?_
    refine runs_cond rfl (fun h2 => ?_) (fun h2 => ?_)
    · try simp only [decide_eq_true_eq, decide_eq_false_iff_not, Bool.not_eq_true', Bool.not_eq_false', Bool.not_true, Bool.not_false, Int.not_lt, Int.not_le, Bool.and_eq_true, Bool.or_eq_true, Bool.and_eq_false_iff, Bool.or_eq_false_iff, Bool.false_eq_true, Bool.true_eq_false, not_true_eq_false, not_false_eq_true, decide_true, decide_false, true_and, and_true, false_and, and_false, true_or, or_true, false_or, or_false, Bool.true_and, Bool.false_and, Bool.and_true, Bool.and_false, Bool.true_or, Bool.false_or, Bool.or_true, Bool.or_false, Int.reduceEq, Int.reduceNe, Int.reduceLT, Int.reduceLE, Int.toNat_natCast, toNat_add1] at h2
      all_goals (first | contradiction | (exfalso; omega) | (exfalso; simp_all))
    · try simp only [decide_eq_true_eq, decide_eq_false_iff_not, Bool.not_eq_true', Bool.not_eq_false', Bool.not_true, Bool.not_false, Int.not_lt, Int.not_le, Bool.and_eq_true, Bool.or_eq_true, Bool.and_eq_false_iff, Bool.or_eq_false_iff, Bool.false_eq_true, Bool.true_eq_false, not_true_eq_false, not_false_eq_true, decide_true, decide_false, true_and, and_true, false_and, and_false, true_or, or_true, false_or, or_false, Bool.true_and, Bool.false_and, Bool.and_true, Bool.and_false, Bool.true_or, Bool.false_or, Bool.or_true, Bool.or_false, Int.reduceEq, Int.reduceNe, Int.reduceLT, Int.reduceLE, Int.toNat_natCast, toNat_add1] at h2
      all_goals try (first | contradiction | (exfalso; omega))
      all_goals (
        refine runs_seq ?_
        refine runs_keep [11, 3, 1, 2] rfl ?_
        refine runs_region ?_
        refine ops_fl rfl rfl rfl (fl_eql rfl rfl rfl ?_)
        refine ops_fl rfl rfl rfl (fl_assign rfl rfl ?_)
        refine ops_nil ?_
        refine seq_normal ?_
        refine runs_cond rfl (fun h4 => ?_) (fun h4 => ?_)
        · try simp only [decide_eq_true_eq, decide_eq_false_iff_not, Bool.not_eq_true', Bool.not_eq_false', Bool.not_true, Bool.not_false, Int.not_lt, Int.not_le, Bool.and_eq_true, Bool.or_eq_true, Bool.and_eq_false_iff, Bool.or_eq_false_iff, Bool.false_eq_true, Bool.true_eq_false, not_true_eq_false, not_false_eq_true, decide_true, decide_false, true_and, and_true, false_and, and_false, true_or, or_true, false_or, or_false, Bool.true_and, Bool.false_and, Bool.and_true, Bool.and_false, Bool.true_or, Bool.false_or, Bool.or_true, Bool.or_false, Int.reduceEq, Int.reduceNe, Int.reduceLT, Int.reduceLE, Int.toNat_natCast, toNat_add1] at h4
          all_goals (first | contradiction | (exfalso; omega) | (exfalso; simp_all))
        · try simp only [decide_eq_true_eq, decide_eq_false_iff_not, Bool.not_eq_true', Bool.not_eq_false', Bool.not_true, Bool.not_false, Int.not_lt, Int.not_le, Bool.and_eq_true, Bool.or_eq_true, Bool.and_eq_false_iff, Bool.or_eq_false_iff, Bool.false_eq_true, Bool.true_eq_false, not_true_eq_false, not_false_eq_true, decide_true, decide_false, true_and, and_true, false_and, and_false, true_or, or_true, false_or, or_false, Bool.true_and, Bool.false_and, Bool.and_true, Bool.and_false, Bool.true_or, Bool.false_or, Bool.or_true, Bool.or_false, Int.reduceEq, Int.reduceNe, Int.reduceLT, Int.reduceLE, Int.toNat_natCast, toNat_add1] at h4
          all_goals try (first | contradiction | (exfalso; omega))
          all_goals (
            refine runs_seq ?_
            refine runs_region ?_
            refine ops_fl rfl rfl rfl (fl_eql rfl rfl rfl ?_)
            refine ops_fl rfl rfl rfl (fl_assign rfl rfl ?_)
            refine ops_nil ?_
            refine seq_normal ?_
            refine runs_cond rfl (fun h6 => ?_) (fun h6 => ?_)
            · try simp only [decide_eq_true_eq, decide_eq_false_iff_not, Bool.not_eq_true', Bool.not_eq_false', Bool.not_true, Bool.not_false, Int.not_lt, Int.not_le, Bool.and_eq_true, Bool.or_eq_true, Bool.and_eq_false_iff, Bool.or_eq_false_iff, Bool.false_eq_true, Bool.true_eq_false, not_true_eq_false, not_false_eq_true, decide_true, decide_false, true_and, and_true, false_and, and_false, true_or, or_true, false_or, or_false, Bool.true_and, Bool.false_and, Bool.and_true, Bool.and_false, Bool.true_or, Bool.false_or, Bool.or_true, Bool.or_false, Int.reduceEq, Int.reduceNe, Int.reduceLT, Int.reduceLE, Int.toNat_natCast, toNat_add1] at h6
              all_goals try (first | contradiction | (exfalso; omega))
              all_goals (
                refine runs_seq ?_
                refine runs_seq ?_
                refine runs_keep [3, 1, 2] rfl ?_
                refine runs_region ?_
                refine ops_fl rfl rfl rfl (fl_assign rfl rfl ?_)
                refine ops_nil ?_
                refine seq_normal ?_
                refine runs_block ?_
                apply runs_loop_c (ι := Nat) (fun i => [(7, int i)]) [3, 1, 2] (fun i => i ≤ ps.length ∧ s ∉ ps.take i) (fun i => ps.length - i) (0)
                case hk => exact rfl
                case hI =>
                  exact ⟨Nat.zero_le _, by simp⟩
                case hm =>
                  refine meets_of rfl rfl rfl ?_ (.cons rfl (by first | exact .refl _ | exact .toD rfl | exact .nilD | exact Fit.of_eq rfl | exact .dle rfl (by repeat' (first | exact DLe.refl _ | exact DLe.nil | exact DLeL.nil | exact DLeLL.nil | apply DLe.agg | apply DLe.tup | apply DLe.sl | apply DLe.cp | apply DLeL.cons | apply DLeLL.cons))) (.cons rfl (by first | exact .refl _ | exact .toD rfl | exact .nilD | exact Fit.of_eq rfl | exact .dle rfl (by repeat' (first | exact DLe.refl _ | exact DLe.nil | exact DLeL.nil | exact DLeLL.nil | apply DLe.agg | apply DLe.tup | apply DLe.sl | apply DLe.cp | apply DLeL.cons | apply DLeLL.cons))) (.cons rfl (by first | exact .refl _ | exact .toD rfl | exact .nilD | exact Fit.of_eq rfl | exact .dle rfl (by repeat' (first | exact DLe.refl _ | exact DLe.nil | exact DLeL.nil | exact DLeLL.nil | apply DLe.agg | apply DLe.tup | apply DLe.sl | apply DLe.cp | apply DLeL.cons | apply DLeLL.cons))) (.cons rfl (by first | exact .refl _ | exact .toD rfl | exact .nilD | exact Fit.of_eq rfl | exact .dle rfl (by repeat' (first | exact DLe.refl _ | exact DLe.nil | exact DLeL.nil | exact DLeLL.nil | apply DLe.agg | apply DLe.tup | apply DLe.sl | apply DLe.cp | apply DLeL.cons | apply DLeLL.cons))) .nil))))
                  repeat (first | exact .nil | refine .cons rfl (.cells rfl (FitL.rfl _)) ?_ | refine .cons rfl (.cells rfl (by repeat (first | exact .nil | refine .cons (by first | exact .refl _ | exact .toD rfl | exact .nil rfl | exact .nilD | exact Fit.of_eq rfl) ?_))) ?_ | refine .cons rfl .row ?_ | refine .cons rfl .mapI ?_ | refine .cons rfl .nnrow ?_ | refine .cons rfl .nrow ?_ | refine .cons rfl .dead ?_)
                case h =>
                  rintro i hinv
                  try dsimp only at hinv
                  refine runs_keep [7, 3, 1, 2] rfl ?_
                  refine runs_seq ?_
                  refine runs_seq ?_
                  refine runs_region ?_
                  refine ops_fl rfl rfl rfl (fl_move rfl rfl ?_)
                  refine ops_fl rfl rfl rfl (fl_move rfl rfl ?_)
                  first
                  | refine ops_fl rfl rfl rfl (fl_len us36 rfl rfl ?_)
                  | refine ops_fl rfl rfl rfl (fl_len_own us36 rfl rfl ?_)
                  | refine ops_fl rfl rfl rfl (fl_len_nil us36 rfl rfl ?_)
                  refine ops_fl rfl rfl rfl (fl_lss rfl rfl rfl ?_)
                  refine ops_nil ?_
                  refine seq_normal ?_
                  refine runs_cond rfl (fun h8 => ?_) (fun h8 => ?_)
                  · try simp only [decide_eq_true_eq, decide_eq_false_iff_not, Bool.not_eq_true', Bool.not_eq_false', Bool.not_true, Bool.not_false, Int.not_lt, Int.not_le, Bool.and_eq_true, Bool.or_eq_true, Bool.and_eq_false_iff, Bool.or_eq_false_iff, Bool.false_eq_true, Bool.true_eq_false, not_true_eq_false, not_false_eq_true, decide_true, decide_false, true_and, and_true, false_and, and_false, true_or, or_true, false_or, or_false, Bool.true_and, Bool.false_and, Bool.and_true, Bool.and_false, Bool.true_or, Bool.false_or, Bool.or_true, Bool.or_false, Int.reduceEq, Int.reduceNe, Int.reduceLT, Int.reduceLE, Int.toNat_natCast, toNat_add1] at h8
                    all_goals try (first | contradiction | (exfalso; omega))
                    all_goals (
                      refine runs_skip ?_
                      refine seq_normal ?_
                      refine runs_seq ?_
                      refine runs_block ?_
                      refine runs_seq ?_
                      refine runs_keep [7, 3, 1, 2] rfl ?_
                      refine any_start mixed rfl rfl ?_
                      refine any_fl 0 rfl rfl rfl rfl (by kernel_rfl) rfl (fl_move rfl rfl ⟨_, rfl, ?_⟩)
                      refine any_fl 1 rfl rfl rfl rfl (by kernel_rfl) rfl (fl_move rfl rfl ⟨_, rfl, ?_⟩)
                      first
                      | refine any_fl 2 rfl rfl rfl rfl (by kernel_rfl) rfl (fl_index us36 te36 rfl rfl rfl rfl rfl (by omega) (str_at (by omega)) ⟨_, rfl, ?_⟩)
                      | refine any_fl 2 rfl rfl rfl rfl (by kernel_rfl) rfl (fl_index_own us36 te36 rfl rfl rfl rfl rfl (by omega) (str_at (by omega)) ⟨_, rfl, ?_⟩)
                      first
                      | refine any_fl 3 rfl rfl rfl rfl (by kernel_rfl) rfl (fl_load_blk ti9 rfl rfl rfl rfl rfl rfl rfl ⟨_, rfl, ?_⟩)
                      | refine any_fl 3 rfl rfl rfl rfl (by kernel_rfl) rfl (fl_load_cp ti9 rfl rfl rfl rfl rfl rfl ⟨_, rfl, ?_⟩)
                      first
                      | refine any_fl 4 rfl rfl rfl rfl (by kernel_rfl) rfl (fl_field_blk ti31 rfl rfl rfl rfl ⟨_, rfl, ?_⟩)
                      | refine any_fl 4 rfl rfl rfl rfl (by kernel_rfl) rfl (fl_field_cp ti31 rfl rfl rfl rfl rfl ⟨_, rfl, ?_⟩)
                      first
                      | refine any_fl 5 rfl rfl rfl rfl (by kernel_rfl) rfl (fl_load_blk ti9 rfl rfl rfl rfl rfl rfl rfl ⟨_, rfl, ?_⟩)
                      | refine any_fl 5 rfl rfl rfl rfl (by kernel_rfl) rfl (fl_load_cp ti9 rfl rfl rfl rfl rfl rfl ⟨_, rfl, ?_⟩)
                      refine any_fl 6 rfl rfl rfl rfl (by kernel_rfl) rfl (fl_seql rfl rfl rfl ⟨_, rfl, ?_⟩)
                      refine any_end (by kernel_rfl) ?_
                      refine seq_normal ?_
                      refine runs_cond rfl (fun h10 => ?_) (fun h10 => ?_)
                      · try simp only [decide_eq_true_eq, decide_eq_false_iff_not, Bool.not_eq_true', Bool.not_eq_false', Bool.not_true, Bool.not_false, Int.not_lt, Int.not_le, Bool.and_eq_true, Bool.or_eq_true, Bool.and_eq_false_iff, Bool.or_eq_false_iff, Bool.false_eq_true, Bool.true_eq_false, not_true_eq_false, not_false_eq_true, decide_true, decide_false, true_and, and_true, false_and, and_false, true_or, or_true, false_or, or_false, Bool.true_and, Bool.false_and, Bool.and_true, Bool.and_false, Bool.true_or, Bool.false_or, Bool.or_true, Bool.or_false, Int.reduceEq, Int.reduceNe, Int.reduceLT, Int.reduceLE, Int.toNat_natCast, toNat_add1] at h10
                        all_goals try (first | contradiction | (exfalso; omega))
                        all_goals (
                          refine runs_seq ?_
                          refine runs_keep [7, 2] rfl ?_
                          refine runs_region ?_
                          refine ops_fl rfl rfl rfl (fl_move rfl rfl ?_)
                          refine ops_fl rfl rfl rfl (fl_move rfl rfl ?_)
                          have hin : i < ns.length := by omega
                          first
                          | refine ops_fl rfl rfl rfl (fl_index us39 te39 rfl rfl rfl rfl rfl (by omega) (int_at (by omega)) ?_)
                          | refine ops_fl rfl rfl rfl (fl_index_own us39 te39 rfl rfl rfl rfl rfl (by omega) (int_at (by omega)) ?_)
                          first
                          | refine ops_fl rfl rfl rfl (fl_load_blk ti3 rfl rfl rfl rfl rfl rfl rfl ?_)
                          | refine ops_fl rfl rfl rfl (fl_load_cp ti3 rfl rfl rfl rfl rfl rfl ?_)
                          refine ops_fl rfl rfl rfl (fl_assign rfl rfl ?_)
                          refine ops_nil ?_
                          refine seq_normal ?_
                          refine runs_ret ?_
                          refine inb_ret ?_
                          refine seq_ret ?_
                          refine seq_ret ?_
                          refine inb_ret ?_
                          refine seq_ret ?_
                          refine inb_ret ?_
                          refine seq_ret ?_
                          refine fin_ret ?_
                          refine fin_d1 rfl rfl ?_
                          obtain ⟨n, hn1, hn2⟩ := pval_at hl hinv.2 (show ps[i]? = some s by rw [List.getElem?_eq_getElem (by omega), h10])
                          rw [List.getElem?_eq_getElem hin] at hn1
                          simp only [Lev.worth, hn2]
                          cases hn1; rfl
                        )
                      · try simp only [decide_eq_true_eq, decide_eq_false_iff_not, Bool.not_eq_true', Bool.not_eq_false', Bool.not_true, Bool.not_false, Int.not_lt, Int.not_le, Bool.and_eq_true, Bool.or_eq_true, Bool.and_eq_false_iff, Bool.or_eq_false_iff, Bool.false_eq_true, Bool.true_eq_false, not_true_eq_false, not_false_eq_true, decide_true, decide_false, true_and, and_true, false_and, and_false, true_or, or_true, false_or, or_false, Bool.true_and, Bool.false_and, Bool.and_true, Bool.and_false, Bool.true_or, Bool.false_or, Bool.or_true, Bool.or_false, Int.reduceEq, Int.reduceNe, Int.reduceLT, Int.reduceLE, Int.toNat_natCast, toNat_add1] at h10
                        all_goals try (first | contradiction | (exfalso; omega))
                        all_goals (
                          refine runs_skip ?_
                          refine inb_normal ?_
                          refine seq_normal ?_
                          refine runs_keep [7, 3, 1, 2] rfl ?_
                          refine runs_region ?_
                          refine ops_fl rfl rfl rfl (fl_move rfl rfl ?_)
                          refine ops_fl rfl rfl rfl (fl_add rfl rfl rfl (by omega) ?_)
                          refine ops_fl rfl rfl rfl (fl_assign rfl rfl ?_)
                          refine ops_nil ?_
                          refine seq_back ?_
                          refine back_i (i + 1) rfl ?_ ?_
                          · exact ⟨⟨by omega, not_mem_take_succ (by omega) hinv.2 h10⟩, by omega⟩
                          · refine meets_of rfl rfl rfl ?_ (.cons rfl (by first | exact .refl _ | exact .toD rfl | exact .nilD | exact Fit.of_eq rfl | exact .dle rfl (by repeat' (first | exact DLe.refl _ | exact DLe.nil | exact DLeL.nil | exact DLeLL.nil | apply DLe.agg | apply DLe.tup | apply DLe.sl | apply DLe.cp | apply DLeL.cons | apply DLeLL.cons))) (.cons rfl (by first | exact .refl _ | exact .toD rfl | exact .nilD | exact Fit.of_eq rfl | exact .dle rfl (by repeat' (first | exact DLe.refl _ | exact DLe.nil | exact DLeL.nil | exact DLeLL.nil | apply DLe.agg | apply DLe.tup | apply DLe.sl | apply DLe.cp | apply DLeL.cons | apply DLeLL.cons))) (.cons rfl (by first | exact .refl _ | exact .toD rfl | exact .nilD | exact Fit.of_eq rfl | exact .dle rfl (by repeat' (first | exact DLe.refl _ | exact DLe.nil | exact DLeL.nil | exact DLeLL.nil | apply DLe.agg | apply DLe.tup | apply DLe.sl | apply DLe.cp | apply DLeL.cons | apply DLeLL.cons))) (.cons rfl (by first | exact .refl _ | exact .toD rfl | exact .nilD | exact Fit.of_eq rfl | exact .dle rfl (by repeat' (first | exact DLe.refl _ | exact DLe.nil | exact DLeL.nil | exact DLeLL.nil | apply DLe.agg | apply DLe.tup | apply DLe.sl | apply DLe.cp | apply DLeL.cons | apply DLeLL.cons))) .nil))))
                            repeat (first | exact .nil | refine .cons rfl (.cells rfl (FitL.rfl _)) ?_ | refine .cons rfl (.cells rfl (by repeat (first | exact .nil | refine .cons (by first | exact .refl _ | exact .toD rfl | exact .nil rfl | exact .nilD | exact Fit.of_eq rfl) ?_))) ?_ | refine .cons rfl .row ?_ | refine .cons rfl .mapI ?_ | refine .cons rfl .nnrow ?_ | refine .cons rfl .nrow ?_ | refine .cons rfl .dead ?_)
                        )
                    )
                  · try simp only [decide_eq_true_eq, decide_eq_false_iff_not, Bool.not_eq_true', Bool.not_eq_false', Bool.not_true, Bool.not_false, Int.not_lt, Int.not_le, Bool.and_eq_true, Bool.or_eq_true, Bool.and_eq_false_iff, Bool.or_eq_false_iff, Bool.false_eq_true, Bool.true_eq_false, not_true_eq_false, not_false_eq_true, decide_true, decide_false, true_and, and_true, false_and, and_false, true_or, or_true, false_or, or_false, Bool.true_and, Bool.false_and, Bool.and_true, Bool.and_false, Bool.true_or, Bool.false_or, Bool.or_true, Bool.or_false, Int.reduceEq, Int.reduceNe, Int.reduceLT, Int.reduceLE, Int.toNat_natCast, toNat_add1] at h8
                    all_goals try (first | contradiction | (exfalso; omega))
                    all_goals (
                      refine runs_exit ?_
                      refine seq_exit ?_
                      refine seq_exit ?_
                      refine inb_exit ?_
                      refine seq_normal ?_
                      refine runs_seq ?_
                      refine runs_keep [] rfl ?_
                      refine runs_region ?_
                      refine ops_fl rfl rfl rfl (fl_assign rfl rfl ?_)
                      refine ops_nil ?_
                      refine seq_normal ?_
                      refine runs_ret ?_
                      refine inb_ret ?_
                      refine seq_ret ?_
                      refine fin_ret ?_
                      refine fin_d1 rfl rfl ?_
                      have h := hinv.2
                      rw [List.take_of_length_le (by omega)] at h
                      simp only [Lev.worth, pval_none h]
                    )
              )
            · try simp only [decide_eq_true_eq, decide_eq_false_iff_not, Bool.not_eq_true', Bool.not_eq_false', Bool.not_true, Bool.not_false, Int.not_lt, Int.not_le, Bool.and_eq_true, Bool.or_eq_true, Bool.and_eq_false_iff, Bool.or_eq_false_iff, Bool.false_eq_true, Bool.true_eq_false, not_true_eq_false, not_false_eq_true, decide_true, decide_false, true_and, and_true, false_and, and_false, true_or, or_true, false_or, or_false, Bool.true_and, Bool.false_and, Bool.and_true, Bool.and_false, Bool.true_or, Bool.false_or, Bool.or_true, Bool.or_false, Int.reduceEq, Int.reduceNe, Int.reduceLT, Int.reduceLE, Int.toNat_natCast, toNat_add1] at h6
              all_goals (first | contradiction | (exfalso; omega) | (exfalso; simp_all))
          )
      )
  | max a b iha ihb =>
    intro hsz
    simp only [Lev.size] at hsz
    have h9 := hbd a
    have h10 := hbd b
    refine triD_of_runs Tryd.func23 rfl Tryd.ntmps23 (rs := [.tmp 6]) rfl rfl rfl ?_
    refine runs_seq ?_
    refine runs_region ?_
    refine ops_cons (T := fun _ => False) rfl (op_box ti31 rfl rfl rfl rfl rfl (by simp only [List.length_cons, List.length_nil, Nat.reduceAdd]; rfl) rfl ?_)
    refine ops_fl rfl rfl rfl (fl_assign rfl rfl ?_)
    refine ops_nil ?_
    refine seq_normal ?_
    refine runs_seq ?_
    refine runs_seq ?_
    refine runs_region ?_
    first
    | refine ops_fl rfl rfl rfl (fl_field_blk ti31 rfl rfl rfl rfl ?_)
    | refine ops_fl rfl rfl rfl (fl_field_cp ti31 rfl rfl rfl rfl rfl ?_)
    first
    | refine ops_fl rfl rfl rfl (fl_load_blk ti3 rfl rfl rfl rfl rfl rfl rfl ?_)
    | refine ops_fl rfl rfl rfl (fl_load_cp ti3 rfl rfl rfl rfl rfl rfl ?_)
    refine ops_nil ?_
    refine seq_normal ?_
    refine runs_block ?_
    refine runs_seq ?_
    refine runs_region ?_
    refine ops_fl rfl rfl rfl (fl_eql rfl rfl rfl ?_)
    refine ops_fl rfl rfl rfl (fl_assign rfl rfl ?_)
    refine ops_nil ?_
    refine seq_normal ?_
    refine runs_cond rfl (fun h2 => ?_) (fun h2 => ?_)
    · try simp only [decide_eq_true_eq, decide_eq_false_iff_not, Bool.not_eq_true', Bool.not_eq_false', Bool.not_true, Bool.not_false, Int.not_lt, Int.not_le, Bool.and_eq_true, Bool.or_eq_true, Bool.and_eq_false_iff, Bool.or_eq_false_iff, Bool.false_eq_true, Bool.true_eq_false, not_true_eq_false, not_false_eq_true, decide_true, decide_false, true_and, and_true, false_and, and_false, true_or, or_true, false_or, or_false, Bool.true_and, Bool.false_and, Bool.and_true, Bool.and_false, Bool.true_or, Bool.false_or, Bool.or_true, Bool.or_false, Int.reduceEq, Int.reduceNe, Int.reduceLT, Int.reduceLE, Int.toNat_natCast, toNat_add1] at h2
      all_goals (first | contradiction | (exfalso; omega) | (exfalso; simp_all))
    · try simp only [decide_eq_true_eq, decide_eq_false_iff_not, Bool.not_eq_true', Bool.not_eq_false', Bool.not_true, Bool.not_false, Int.not_lt, Int.not_le, Bool.and_eq_true, Bool.or_eq_true, Bool.and_eq_false_iff, Bool.or_eq_false_iff, Bool.false_eq_true, Bool.true_eq_false, not_true_eq_false, not_false_eq_true, decide_true, decide_false, true_and, and_true, false_and, and_false, true_or, or_true, false_or, or_false, Bool.true_and, Bool.false_and, Bool.and_true, Bool.and_false, Bool.true_or, Bool.false_or, Bool.or_true, Bool.or_false, Int.reduceEq, Int.reduceNe, Int.reduceLT, Int.reduceLE, Int.toNat_natCast, toNat_add1] at h2
      all_goals try (first | contradiction | (exfalso; omega))
      all_goals (
        refine runs_seq ?_
        refine runs_keep [11, 3, 1, 2] rfl ?_
        refine runs_region ?_
        refine ops_fl rfl rfl rfl (fl_eql rfl rfl rfl ?_)
        refine ops_fl rfl rfl rfl (fl_assign rfl rfl ?_)
        refine ops_nil ?_
        refine seq_normal ?_
        refine runs_cond rfl (fun h4 => ?_) (fun h4 => ?_)
        · try simp only [decide_eq_true_eq, decide_eq_false_iff_not, Bool.not_eq_true', Bool.not_eq_false', Bool.not_true, Bool.not_false, Int.not_lt, Int.not_le, Bool.and_eq_true, Bool.or_eq_true, Bool.and_eq_false_iff, Bool.or_eq_false_iff, Bool.false_eq_true, Bool.true_eq_false, not_true_eq_false, not_false_eq_true, decide_true, decide_false, true_and, and_true, false_and, and_false, true_or, or_true, false_or, or_false, Bool.true_and, Bool.false_and, Bool.and_true, Bool.and_false, Bool.true_or, Bool.false_or, Bool.or_true, Bool.or_false, Int.reduceEq, Int.reduceNe, Int.reduceLT, Int.reduceLE, Int.toNat_natCast, toNat_add1] at h4
          all_goals (first | contradiction | (exfalso; omega) | (exfalso; simp_all))
        · try simp only [decide_eq_true_eq, decide_eq_false_iff_not, Bool.not_eq_true', Bool.not_eq_false', Bool.not_true, Bool.not_false, Int.not_lt, Int.not_le, Bool.and_eq_true, Bool.or_eq_true, Bool.and_eq_false_iff, Bool.or_eq_false_iff, Bool.false_eq_true, Bool.true_eq_false, not_true_eq_false, not_false_eq_true, decide_true, decide_false, true_and, and_true, false_and, and_false, true_or, or_true, false_or, or_false, Bool.true_and, Bool.false_and, Bool.and_true, Bool.and_false, Bool.true_or, Bool.false_or, Bool.or_true, Bool.or_false, Int.reduceEq, Int.reduceNe, Int.reduceLT, Int.reduceLE, Int.toNat_natCast, toNat_add1] at h4
          all_goals try (first | contradiction | (exfalso; omega))
          all_goals (
            refine runs_seq ?_
            refine runs_region ?_
            refine ops_fl rfl rfl rfl (fl_eql rfl rfl rfl ?_)
            refine ops_fl rfl rfl rfl (fl_assign rfl rfl ?_)
            refine ops_nil ?_
            refine seq_normal ?_
            refine runs_cond rfl (fun h6 => ?_) (fun h6 => ?_)
            · try simp only [decide_eq_true_eq, decide_eq_false_iff_not, Bool.not_eq_true', Bool.not_eq_false', Bool.not_true, Bool.not_false, Int.not_lt, Int.not_le, Bool.and_eq_true, Bool.or_eq_true, Bool.and_eq_false_iff, Bool.or_eq_false_iff, Bool.false_eq_true, Bool.true_eq_false, not_true_eq_false, not_false_eq_true, decide_true, decide_false, true_and, and_true, false_and, and_false, true_or, or_true, false_or, or_false, Bool.true_and, Bool.false_and, Bool.and_true, Bool.and_false, Bool.true_or, Bool.false_or, Bool.or_true, Bool.or_false, Int.reduceEq, Int.reduceNe, Int.reduceLT, Int.reduceLE, Int.toNat_natCast, toNat_add1] at h6
              all_goals (first | contradiction | (exfalso; omega) | (exfalso; simp_all))
            · try simp only [decide_eq_true_eq, decide_eq_false_iff_not, Bool.not_eq_true', Bool.not_eq_false', Bool.not_true, Bool.not_false, Int.not_lt, Int.not_le, Bool.and_eq_true, Bool.or_eq_true, Bool.and_eq_false_iff, Bool.or_eq_false_iff, Bool.false_eq_true, Bool.true_eq_false, not_true_eq_false, not_false_eq_true, decide_true, decide_false, true_and, and_true, false_and, and_false, true_or, or_true, false_or, or_false, Bool.true_and, Bool.false_and, Bool.and_true, Bool.and_false, Bool.true_or, Bool.false_or, Bool.or_true, Bool.or_false, Int.reduceEq, Int.reduceNe, Int.reduceLT, Int.reduceLE, Int.toNat_natCast, toNat_add1] at h6
              all_goals try (first | contradiction | (exfalso; omega))
              all_goals (
                refine runs_skip ?_
                refine inb_normal ?_
                refine seq_normal ?_
                refine runs_seq ?_
                refine runs_keep [3, 1, 2] rfl ?_
                refine runs_region ?_
                first
                | refine ops_fl rfl rfl rfl (fl_field_blk ti31 rfl rfl rfl rfl ?_)
                | refine ops_fl rfl rfl rfl (fl_field_cp ti31 rfl rfl rfl rfl rfl ?_)
                first
                | refine ops_fl rfl rfl rfl (fl_load_blk ti29 rfl rfl rfl rfl rfl rfl rfl ?_)
                | refine ops_fl rfl rfl rfl (fl_load_cp ti29 rfl rfl rfl rfl rfl rfl ?_)
                first
                | refine ops_fl rfl rfl rfl (fl_index us29 te29 rfl rfl rfl rfl rfl (by omega) (rfl) ?_)
                | refine ops_fl rfl rfl rfl (fl_index_own us29 te29 rfl rfl rfl rfl rfl (by omega) (rfl) ?_)
                first
                | refine ops_fl rfl rfl rfl (fl_load_blk ti31 rfl rfl rfl rfl rfl rfl rfl ?_)
                | refine ops_fl rfl rfl rfl (fl_load_cp ti31 rfl rfl rfl rfl rfl rfl ?_)
                | refine ops_fl rfl rfl rfl (fl_load_all ti31 rfl rfl rfl rfl (by first | rfl | exact Lvl.cells_len _) ?_)
                refine ops_fl rfl rfl rfl (fl_move rfl rfl ?_)
                refine ops_fl rfl rfl rfl (fl_move rfl rfl ?_)
                refine ops_cons (T := fun _ => False) rfl (op_call ca23 rfl rfl rfl rfl (iha (by omega)) (.cons (by first | exact .refl _ | exact .toD rfl | exact .nilD | exact .dle rfl (by repeat' (first | exact DLe.refl _ | exact DLe.nil | exact DLeL.nil | exact DLeLL.nil | apply DLe.agg | apply DLe.tup | apply DLe.sl | apply DLe.cp | apply DLeL.cons | apply DLeLL.cons))) (.cons (by first | exact .refl _ | exact .toD rfl | exact .nilD | exact .dle rfl (by repeat' (first | exact DLe.refl _ | exact DLe.nil | exact DLeL.nil | exact DLeLL.nil | apply DLe.agg | apply DLe.tup | apply DLe.sl | apply DLe.cp | apply DLeL.cons | apply DLeLL.cons))) (.cons (by first | exact .refl _ | exact .toD rfl | exact .nilD | exact .dle rfl (by repeat' (first | exact DLe.refl _ | exact DLe.nil | exact DLeL.nil | exact DLeLL.nil | apply DLe.agg | apply DLe.tup | apply DLe.sl | apply DLe.cp | apply DLeL.cons | apply DLeLL.cons))) .nil))) (fun d hd => ?_))
                obtain rfl := hd
                refine ops_fl rfl rfl rfl (fl_assign rfl rfl ?_)
                refine ops_nil ?_
                refine seq_normal ?_
                refine runs_seq ?_
                refine runs_keep [8, 3, 1, 2] rfl ?_
                refine runs_region ?_
                first
                | refine ops_fl rfl rfl rfl (fl_field_blk ti31 rfl rfl rfl rfl ?_)
                | refine ops_fl rfl rfl rfl (fl_field_cp ti31 rfl rfl rfl rfl rfl ?_)
                first
                | refine ops_fl rfl rfl rfl (fl_load_blk ti29 rfl rfl rfl rfl rfl rfl rfl ?_)
                | refine ops_fl rfl rfl rfl (fl_load_cp ti29 rfl rfl rfl rfl rfl rfl ?_)
                first
                | refine ops_fl rfl rfl rfl (fl_index us29 te29 rfl rfl rfl rfl rfl (by omega) (rfl) ?_)
                | refine ops_fl rfl rfl rfl (fl_index_own us29 te29 rfl rfl rfl rfl rfl (by omega) (rfl) ?_)
                first
                | refine ops_fl rfl rfl rfl (fl_load_blk ti31 rfl rfl rfl rfl rfl rfl rfl ?_)
                | refine ops_fl rfl rfl rfl (fl_load_cp ti31 rfl rfl rfl rfl rfl rfl ?_)
                | refine ops_fl rfl rfl rfl (fl_load_all ti31 rfl rfl rfl rfl (by first | rfl | exact Lvl.cells_len _) ?_)
                refine ops_fl rfl rfl rfl (fl_move rfl rfl ?_)
                refine ops_fl rfl rfl rfl (fl_move rfl rfl ?_)
                refine ops_cons (T := fun _ => False) rfl (op_call ca23 rfl rfl rfl rfl (ihb (by omega)) (.cons (by first | exact .refl _ | exact .toD rfl | exact .nilD | exact .dle rfl (by repeat' (first | exact DLe.refl _ | exact DLe.nil | exact DLeL.nil | exact DLeLL.nil | apply DLe.agg | apply DLe.tup | apply DLe.sl | apply DLe.cp | apply DLeL.cons | apply DLeLL.cons))) (.cons (by first | exact .refl _ | exact .toD rfl | exact .nilD | exact .dle rfl (by repeat' (first | exact DLe.refl _ | exact DLe.nil | exact DLeL.nil | exact DLeLL.nil | apply DLe.agg | apply DLe.tup | apply DLe.sl | apply DLe.cp | apply DLeL.cons | apply DLeLL.cons))) (.cons (by first | exact .refl _ | exact .toD rfl | exact .nilD | exact .dle rfl (by repeat' (first | exact DLe.refl _ | exact DLe.nil | exact DLeL.nil | exact DLeLL.nil | apply DLe.agg | apply DLe.tup | apply DLe.sl | apply DLe.cp | apply DLeL.cons | apply DLeLL.cons))) .nil))) (fun d hd => ?_))
                obtain rfl := hd
                refine ops_fl rfl rfl rfl (fl_assign rfl rfl ?_)
                refine ops_nil ?_
                refine seq_normal ?_
                refine runs_seq ?_
                refine runs_seq ?_
                refine runs_keep [9, 8, 3] rfl ?_
                refine runs_region ?_
                first
                | refine ops_fl rfl rfl rfl (fl_field_blk ti31 rfl rfl rfl rfl ?_)
                | refine ops_fl rfl rfl rfl (fl_field_cp ti31 rfl rfl rfl rfl rfl ?_)
                first
                | refine ops_fl rfl rfl rfl (fl_load_blk ti3 rfl rfl rfl rfl rfl rfl rfl ?_)
                | refine ops_fl rfl rfl rfl (fl_load_cp ti3 rfl rfl rfl rfl rfl rfl ?_)
                refine ops_fl rfl rfl rfl (fl_eql rfl rfl rfl ?_)
                refine ops_fl rfl rfl rfl (fl_move rfl rfl ?_)
                refine ops_set 60 false rfl (by decide) ?_
                refine ops_gno rfl rfl rfl rfl rfl rfl ?_
                refine ops_gno rfl rfl rfl rfl rfl rfl ?_
                first
                | refine ops_fl rfl rfl rfl (fl_pick_t rfl rfl rfl ?_)
                | refine ops_fl rfl rfl rfl (fl_pick_f rfl rfl rfl ?_)
                | refine ops_fl rfl rfl rfl (fl_pick_b rfl rfl rfl rfl ?_)
                refine ops_nil ?_
                refine seq_normal ?_
                refine runs_cond rfl (fun h15 => ?_) (fun h15 => ?_)
                · try simp only [decide_eq_true_eq, decide_eq_false_iff_not, Bool.not_eq_true', Bool.not_eq_false', Bool.not_true, Bool.not_false, Int.not_lt, Int.not_le, Bool.and_eq_true, Bool.or_eq_true, Bool.and_eq_false_iff, Bool.or_eq_false_iff, Bool.false_eq_true, Bool.true_eq_false, not_true_eq_false, not_false_eq_true, decide_true, decide_false, true_and, and_true, false_and, and_false, true_or, or_true, false_or, or_false, Bool.true_and, Bool.false_and, Bool.and_true, Bool.and_false, Bool.true_or, Bool.false_or, Bool.or_true, Bool.or_false, Int.reduceEq, Int.reduceNe, Int.reduceLT, Int.reduceLE, Int.toNat_natCast, toNat_add1] at h15
                  all_goals (first | contradiction | (exfalso; omega) | (exfalso; simp_all))
                · try simp only [decide_eq_true_eq, decide_eq_false_iff_not, Bool.not_eq_true', Bool.not_eq_false', Bool.not_true, Bool.not_false, Int.not_lt, Int.not_le, Bool.and_eq_true, Bool.or_eq_true, Bool.and_eq_false_iff, Bool.or_eq_false_iff, Bool.false_eq_true, Bool.true_eq_false, not_true_eq_false, not_false_eq_true, decide_true, decide_false, true_and, and_true, false_and, and_false, true_or, or_true, false_or, or_false, Bool.true_and, Bool.false_and, Bool.and_true, Bool.and_false, Bool.true_or, Bool.false_or, Bool.or_true, Bool.or_false, Int.reduceEq, Int.reduceNe, Int.reduceLT, Int.reduceLE, Int.toNat_natCast, toNat_add1] at h15
                  all_goals try (first | contradiction | (exfalso; omega))
                  all_goals (
                    refine runs_skip ?_
                    refine seq_normal ?_
                    refine runs_seq ?_
                    refine runs_seq ?_
                    refine runs_keep [9, 8] rfl ?_
                    refine runs_region ?_
                    refine ops_fl rfl rfl rfl (fl_move rfl rfl ?_)
                    refine ops_fl rfl rfl rfl (fl_move rfl rfl ?_)
                    refine ops_fl rfl rfl rfl (fl_gtr rfl rfl rfl ?_)
                    refine ops_nil ?_
                    refine seq_normal ?_
                    refine runs_cond rfl (fun h17 => ?_) (fun h17 => ?_)
                    · try simp only [decide_eq_true_eq, decide_eq_false_iff_not, Bool.not_eq_true', Bool.not_eq_false', Bool.not_true, Bool.not_false, Int.not_lt, Int.not_le, Bool.and_eq_true, Bool.or_eq_true, Bool.and_eq_false_iff, Bool.or_eq_false_iff, Bool.false_eq_true, Bool.true_eq_false, not_true_eq_false, not_false_eq_true, decide_true, decide_false, true_and, and_true, false_and, and_false, true_or, or_true, false_or, or_false, Bool.true_and, Bool.false_and, Bool.and_true, Bool.and_false, Bool.true_or, Bool.false_or, Bool.or_true, Bool.or_false, Int.reduceEq, Int.reduceNe, Int.reduceLT, Int.reduceLE, Int.toNat_natCast, toNat_add1] at h17
                      all_goals try (first | contradiction | (exfalso; omega))
                      all_goals (
                        refine runs_seq ?_
                        refine runs_keep [9] rfl ?_
                        refine runs_region ?_
                        refine ops_fl rfl rfl rfl (fl_move rfl rfl ?_)
                        refine ops_fl rfl rfl rfl (fl_assign rfl rfl ?_)
                        refine ops_nil ?_
                        refine seq_normal ?_
                        refine runs_ret ?_
                        refine seq_ret ?_
                        refine fin_ret ?_
                        refine fin_d1 rfl rfl ?_
                        rw [show (Lev.max a b).worth (pval ps ns) = b.worth (pval ps ns) by simp only [Lev.worth]; omega]
                      )
                    · try simp only [decide_eq_true_eq, decide_eq_false_iff_not, Bool.not_eq_true', Bool.not_eq_false', Bool.not_true, Bool.not_false, Int.not_lt, Int.not_le, Bool.and_eq_true, Bool.or_eq_true, Bool.and_eq_false_iff, Bool.or_eq_false_iff, Bool.false_eq_true, Bool.true_eq_false, not_true_eq_false, not_false_eq_true, decide_true, decide_false, true_and, and_true, false_and, and_false, true_or, or_true, false_or, or_false, Bool.true_and, Bool.false_and, Bool.and_true, Bool.and_false, Bool.true_or, Bool.false_or, Bool.or_true, Bool.or_false, Int.reduceEq, Int.reduceNe, Int.reduceLT, Int.reduceLE, Int.toNat_natCast, toNat_add1] at h17
                      all_goals try (first | contradiction | (exfalso; omega))
                      all_goals (
                        refine runs_skip ?_
                        refine seq_normal ?_
                        refine runs_seq ?_
                        refine runs_keep [8] rfl ?_
                        refine runs_region ?_
                        refine ops_fl rfl rfl rfl (fl_move rfl rfl ?_)
                        refine ops_fl rfl rfl rfl (fl_assign rfl rfl ?_)
                        refine ops_nil ?_
                        refine seq_normal ?_
                        refine runs_ret ?_
                        refine fin_ret ?_
                        refine fin_d1 rfl rfl ?_
                        rw [show (Lev.max a b).worth (pval ps ns) = a.worth (pval ps ns) by simp only [Lev.worth]; omega]
                      )
                  )
              )
          )
      )
  | imax a b iha ihb =>
    intro hsz
    simp only [Lev.size] at hsz
    have h9 := hbd a
    have h10 := hbd b
    refine triD_of_runs Tryd.func23 rfl Tryd.ntmps23 (rs := [.tmp 6]) rfl rfl rfl ?_
    refine runs_seq ?_
    refine runs_region ?_
    refine ops_cons (T := fun _ => False) rfl (op_box ti31 rfl rfl rfl rfl rfl (by simp only [List.length_cons, List.length_nil, Nat.reduceAdd]; rfl) rfl ?_)
    refine ops_fl rfl rfl rfl (fl_assign rfl rfl ?_)
    refine ops_nil ?_
    refine seq_normal ?_
    refine runs_seq ?_
    refine runs_seq ?_
    refine runs_region ?_
    first
    | refine ops_fl rfl rfl rfl (fl_field_blk ti31 rfl rfl rfl rfl ?_)
    | refine ops_fl rfl rfl rfl (fl_field_cp ti31 rfl rfl rfl rfl rfl ?_)
    first
    | refine ops_fl rfl rfl rfl (fl_load_blk ti3 rfl rfl rfl rfl rfl rfl rfl ?_)
    | refine ops_fl rfl rfl rfl (fl_load_cp ti3 rfl rfl rfl rfl rfl rfl ?_)
    refine ops_nil ?_
    refine seq_normal ?_
    refine runs_block ?_
    refine runs_seq ?_
    refine runs_region ?_
    refine ops_fl rfl rfl rfl (fl_eql rfl rfl rfl ?_)
    refine ops_fl rfl rfl rfl (fl_assign rfl rfl ?_)
    refine ops_nil ?_
    refine seq_normal ?_
    refine runs_cond rfl (fun h2 => ?_) (fun h2 => ?_)
    · try simp only [decide_eq_true_eq, decide_eq_false_iff_not, Bool.not_eq_true', Bool.not_eq_false', Bool.not_true, Bool.not_false, Int.not_lt, Int.not_le, Bool.and_eq_true, Bool.or_eq_true, Bool.and_eq_false_iff, Bool.or_eq_false_iff, Bool.false_eq_true, Bool.true_eq_false, not_true_eq_false, not_false_eq_true, decide_true, decide_false, true_and, and_true, false_and, and_false, true_or, or_true, false_or, or_false, Bool.true_and, Bool.false_and, Bool.and_true, Bool.and_false, Bool.true_or, Bool.false_or, Bool.or_true, Bool.or_false, Int.reduceEq, Int.reduceNe, Int.reduceLT, Int.reduceLE, Int.toNat_natCast, toNat_add1] at h2
      all_goals (first | contradiction | (exfalso; omega) | (exfalso; simp_all))
    · try simp only [decide_eq_true_eq, decide_eq_false_iff_not, Bool.not_eq_true', Bool.not_eq_false', Bool.not_true, Bool.not_false, Int.not_lt, Int.not_le, Bool.and_eq_true, Bool.or_eq_true, Bool.and_eq_false_iff, Bool.or_eq_false_iff, Bool.false_eq_true, Bool.true_eq_false, not_true_eq_false, not_false_eq_true, decide_true, decide_false, true_and, and_true, false_and, and_false, true_or, or_true, false_or, or_false, Bool.true_and, Bool.false_and, Bool.and_true, Bool.and_false, Bool.true_or, Bool.false_or, Bool.or_true, Bool.or_false, Int.reduceEq, Int.reduceNe, Int.reduceLT, Int.reduceLE, Int.toNat_natCast, toNat_add1] at h2
      all_goals try (first | contradiction | (exfalso; omega))
      all_goals (
        refine runs_seq ?_
        refine runs_keep [11, 3, 1, 2] rfl ?_
        refine runs_region ?_
        refine ops_fl rfl rfl rfl (fl_eql rfl rfl rfl ?_)
        refine ops_fl rfl rfl rfl (fl_assign rfl rfl ?_)
        refine ops_nil ?_
        refine seq_normal ?_
        refine runs_cond rfl (fun h4 => ?_) (fun h4 => ?_)
        · try simp only [decide_eq_true_eq, decide_eq_false_iff_not, Bool.not_eq_true', Bool.not_eq_false', Bool.not_true, Bool.not_false, Int.not_lt, Int.not_le, Bool.and_eq_true, Bool.or_eq_true, Bool.and_eq_false_iff, Bool.or_eq_false_iff, Bool.false_eq_true, Bool.true_eq_false, not_true_eq_false, not_false_eq_true, decide_true, decide_false, true_and, and_true, false_and, and_false, true_or, or_true, false_or, or_false, Bool.true_and, Bool.false_and, Bool.and_true, Bool.and_false, Bool.true_or, Bool.false_or, Bool.or_true, Bool.or_false, Int.reduceEq, Int.reduceNe, Int.reduceLT, Int.reduceLE, Int.toNat_natCast, toNat_add1] at h4
          all_goals (first | contradiction | (exfalso; omega) | (exfalso; simp_all))
        · try simp only [decide_eq_true_eq, decide_eq_false_iff_not, Bool.not_eq_true', Bool.not_eq_false', Bool.not_true, Bool.not_false, Int.not_lt, Int.not_le, Bool.and_eq_true, Bool.or_eq_true, Bool.and_eq_false_iff, Bool.or_eq_false_iff, Bool.false_eq_true, Bool.true_eq_false, not_true_eq_false, not_false_eq_true, decide_true, decide_false, true_and, and_true, false_and, and_false, true_or, or_true, false_or, or_false, Bool.true_and, Bool.false_and, Bool.and_true, Bool.and_false, Bool.true_or, Bool.false_or, Bool.or_true, Bool.or_false, Int.reduceEq, Int.reduceNe, Int.reduceLT, Int.reduceLE, Int.toNat_natCast, toNat_add1] at h4
          all_goals try (first | contradiction | (exfalso; omega))
          all_goals (
            refine runs_seq ?_
            refine runs_region ?_
            refine ops_fl rfl rfl rfl (fl_eql rfl rfl rfl ?_)
            refine ops_fl rfl rfl rfl (fl_assign rfl rfl ?_)
            refine ops_nil ?_
            refine seq_normal ?_
            refine runs_cond rfl (fun h6 => ?_) (fun h6 => ?_)
            · try simp only [decide_eq_true_eq, decide_eq_false_iff_not, Bool.not_eq_true', Bool.not_eq_false', Bool.not_true, Bool.not_false, Int.not_lt, Int.not_le, Bool.and_eq_true, Bool.or_eq_true, Bool.and_eq_false_iff, Bool.or_eq_false_iff, Bool.false_eq_true, Bool.true_eq_false, not_true_eq_false, not_false_eq_true, decide_true, decide_false, true_and, and_true, false_and, and_false, true_or, or_true, false_or, or_false, Bool.true_and, Bool.false_and, Bool.and_true, Bool.and_false, Bool.true_or, Bool.false_or, Bool.or_true, Bool.or_false, Int.reduceEq, Int.reduceNe, Int.reduceLT, Int.reduceLE, Int.toNat_natCast, toNat_add1] at h6
              all_goals (first | contradiction | (exfalso; omega) | (exfalso; simp_all))
            · try simp only [decide_eq_true_eq, decide_eq_false_iff_not, Bool.not_eq_true', Bool.not_eq_false', Bool.not_true, Bool.not_false, Int.not_lt, Int.not_le, Bool.and_eq_true, Bool.or_eq_true, Bool.and_eq_false_iff, Bool.or_eq_false_iff, Bool.false_eq_true, Bool.true_eq_false, not_true_eq_false, not_false_eq_true, decide_true, decide_false, true_and, and_true, false_and, and_false, true_or, or_true, false_or, or_false, Bool.true_and, Bool.false_and, Bool.and_true, Bool.and_false, Bool.true_or, Bool.false_or, Bool.or_true, Bool.or_false, Int.reduceEq, Int.reduceNe, Int.reduceLT, Int.reduceLE, Int.toNat_natCast, toNat_add1] at h6
              all_goals try (first | contradiction | (exfalso; omega))
              all_goals (
                refine runs_skip ?_
                refine inb_normal ?_
                refine seq_normal ?_
                refine runs_seq ?_
                refine runs_keep [3, 1, 2] rfl ?_
                refine runs_region ?_
                first
                | refine ops_fl rfl rfl rfl (fl_field_blk ti31 rfl rfl rfl rfl ?_)
                | refine ops_fl rfl rfl rfl (fl_field_cp ti31 rfl rfl rfl rfl rfl ?_)
                first
                | refine ops_fl rfl rfl rfl (fl_load_blk ti29 rfl rfl rfl rfl rfl rfl rfl ?_)
                | refine ops_fl rfl rfl rfl (fl_load_cp ti29 rfl rfl rfl rfl rfl rfl ?_)
                first
                | refine ops_fl rfl rfl rfl (fl_index us29 te29 rfl rfl rfl rfl rfl (by omega) (rfl) ?_)
                | refine ops_fl rfl rfl rfl (fl_index_own us29 te29 rfl rfl rfl rfl rfl (by omega) (rfl) ?_)
                first
                | refine ops_fl rfl rfl rfl (fl_load_blk ti31 rfl rfl rfl rfl rfl rfl rfl ?_)
                | refine ops_fl rfl rfl rfl (fl_load_cp ti31 rfl rfl rfl rfl rfl rfl ?_)
                | refine ops_fl rfl rfl rfl (fl_load_all ti31 rfl rfl rfl rfl (by first | rfl | exact Lvl.cells_len _) ?_)
                refine ops_fl rfl rfl rfl (fl_move rfl rfl ?_)
                refine ops_fl rfl rfl rfl (fl_move rfl rfl ?_)
                refine ops_cons (T := fun _ => False) rfl (op_call ca23 rfl rfl rfl rfl (iha (by omega)) (.cons (by first | exact .refl _ | exact .toD rfl | exact .nilD | exact .dle rfl (by repeat' (first | exact DLe.refl _ | exact DLe.nil | exact DLeL.nil | exact DLeLL.nil | apply DLe.agg | apply DLe.tup | apply DLe.sl | apply DLe.cp | apply DLeL.cons | apply DLeLL.cons))) (.cons (by first | exact .refl _ | exact .toD rfl | exact .nilD | exact .dle rfl (by repeat' (first | exact DLe.refl _ | exact DLe.nil | exact DLeL.nil | exact DLeLL.nil | apply DLe.agg | apply DLe.tup | apply DLe.sl | apply DLe.cp | apply DLeL.cons | apply DLeLL.cons))) (.cons (by first | exact .refl _ | exact .toD rfl | exact .nilD | exact .dle rfl (by repeat' (first | exact DLe.refl _ | exact DLe.nil | exact DLeL.nil | exact DLeLL.nil | apply DLe.agg | apply DLe.tup | apply DLe.sl | apply DLe.cp | apply DLeL.cons | apply DLeLL.cons))) .nil))) (fun d hd => ?_))
                obtain rfl := hd
                refine ops_fl rfl rfl rfl (fl_assign rfl rfl ?_)
                refine ops_nil ?_
                refine seq_normal ?_
                refine runs_seq ?_
                refine runs_keep [8, 3, 1, 2] rfl ?_
                refine runs_region ?_
                first
                | refine ops_fl rfl rfl rfl (fl_field_blk ti31 rfl rfl rfl rfl ?_)
                | refine ops_fl rfl rfl rfl (fl_field_cp ti31 rfl rfl rfl rfl rfl ?_)
                first
                | refine ops_fl rfl rfl rfl (fl_load_blk ti29 rfl rfl rfl rfl rfl rfl rfl ?_)
                | refine ops_fl rfl rfl rfl (fl_load_cp ti29 rfl rfl rfl rfl rfl rfl ?_)
                first
                | refine ops_fl rfl rfl rfl (fl_index us29 te29 rfl rfl rfl rfl rfl (by omega) (rfl) ?_)
                | refine ops_fl rfl rfl rfl (fl_index_own us29 te29 rfl rfl rfl rfl rfl (by omega) (rfl) ?_)
                first
                | refine ops_fl rfl rfl rfl (fl_load_blk ti31 rfl rfl rfl rfl rfl rfl rfl ?_)
                | refine ops_fl rfl rfl rfl (fl_load_cp ti31 rfl rfl rfl rfl rfl rfl ?_)
                | refine ops_fl rfl rfl rfl (fl_load_all ti31 rfl rfl rfl rfl (by first | rfl | exact Lvl.cells_len _) ?_)
                refine ops_fl rfl rfl rfl (fl_move rfl rfl ?_)
                refine ops_fl rfl rfl rfl (fl_move rfl rfl ?_)
                refine ops_cons (T := fun _ => False) rfl (op_call ca23 rfl rfl rfl rfl (ihb (by omega)) (.cons (by first | exact .refl _ | exact .toD rfl | exact .nilD | exact .dle rfl (by repeat' (first | exact DLe.refl _ | exact DLe.nil | exact DLeL.nil | exact DLeLL.nil | apply DLe.agg | apply DLe.tup | apply DLe.sl | apply DLe.cp | apply DLeL.cons | apply DLeLL.cons))) (.cons (by first | exact .refl _ | exact .toD rfl | exact .nilD | exact .dle rfl (by repeat' (first | exact DLe.refl _ | exact DLe.nil | exact DLeL.nil | exact DLeLL.nil | apply DLe.agg | apply DLe.tup | apply DLe.sl | apply DLe.cp | apply DLeL.cons | apply DLeLL.cons))) (.cons (by first | exact .refl _ | exact .toD rfl | exact .nilD | exact .dle rfl (by repeat' (first | exact DLe.refl _ | exact DLe.nil | exact DLeL.nil | exact DLeLL.nil | apply DLe.agg | apply DLe.tup | apply DLe.sl | apply DLe.cp | apply DLeL.cons | apply DLeLL.cons))) .nil))) (fun d hd => ?_))
                obtain rfl := hd
                refine ops_fl rfl rfl rfl (fl_assign rfl rfl ?_)
                refine ops_nil ?_
                refine seq_normal ?_
                refine runs_seq ?_
                refine runs_seq ?_
                refine runs_keep [9, 8, 3] rfl ?_
                refine runs_region ?_
                first
                | refine ops_fl rfl rfl rfl (fl_field_blk ti31 rfl rfl rfl rfl ?_)
                | refine ops_fl rfl rfl rfl (fl_field_cp ti31 rfl rfl rfl rfl rfl ?_)
                first
                | refine ops_fl rfl rfl rfl (fl_load_blk ti3 rfl rfl rfl rfl rfl rfl rfl ?_)
                | refine ops_fl rfl rfl rfl (fl_load_cp ti3 rfl rfl rfl rfl rfl rfl ?_)
                refine ops_fl rfl rfl rfl (fl_eql rfl rfl rfl ?_)
                refine ops_fl rfl rfl rfl (fl_move rfl rfl ?_)
                refine ops_set 60 true rfl (by decide) ?_
                refine ops_gyes rfl rfl rfl rfl ?_
                refine ops_fl rfl rfl rfl (fl_move rfl rfl ?_)
                refine ops_gyes rfl rfl rfl rfl ?_
                refine ops_fl rfl rfl rfl (fl_eql rfl rfl rfl ?_)
                first
                | refine ops_fl rfl rfl rfl (fl_pick_t rfl rfl rfl ?_)
                | refine ops_fl rfl rfl rfl (fl_pick_f rfl rfl rfl ?_)
                | refine ops_fl rfl rfl rfl (fl_pick_b rfl rfl rfl rfl ?_)
                refine ops_nil ?_
                refine seq_normal ?_
                refine runs_cond rfl (fun h15 => ?_) (fun h15 => ?_)
                · try simp only [decide_eq_true_eq, decide_eq_false_iff_not, Bool.not_eq_true', Bool.not_eq_false', Bool.not_true, Bool.not_false, Int.not_lt, Int.not_le, Bool.and_eq_true, Bool.or_eq_true, Bool.and_eq_false_iff, Bool.or_eq_false_iff, Bool.false_eq_true, Bool.true_eq_false, not_true_eq_false, not_false_eq_true, decide_true, decide_false, true_and, and_true, false_and, and_false, true_or, or_true, false_or, or_false, Bool.true_and, Bool.false_and, Bool.and_true, Bool.and_false, Bool.true_or, Bool.false_or, Bool.or_true, Bool.or_false, Int.reduceEq, Int.reduceNe, Int.reduceLT, Int.reduceLE, Int.toNat_natCast, toNat_add1] at h15
                  all_goals try (first | contradiction | (exfalso; omega))
                  all_goals (
                    refine runs_seq ?_
                    refine runs_keep [] rfl ?_
                    refine runs_region ?_
                    refine ops_fl rfl rfl rfl (fl_assign rfl rfl ?_)
                    refine ops_nil ?_
                    refine seq_normal ?_
                    refine runs_ret ?_
                    refine seq_ret ?_
                    refine fin_ret ?_
                    refine fin_d1 rfl rfl ?_
                    rw [show (Lev.imax a b).worth (pval ps ns) = 0 by simp only [Lev.worth, h15, if_true]]
                  )
                · try simp only [decide_eq_true_eq, decide_eq_false_iff_not, Bool.not_eq_true', Bool.not_eq_false', Bool.not_true, Bool.not_false, Int.not_lt, Int.not_le, Bool.and_eq_true, Bool.or_eq_true, Bool.and_eq_false_iff, Bool.or_eq_false_iff, Bool.false_eq_true, Bool.true_eq_false, not_true_eq_false, not_false_eq_true, decide_true, decide_false, true_and, and_true, false_and, and_false, true_or, or_true, false_or, or_false, Bool.true_and, Bool.false_and, Bool.and_true, Bool.and_false, Bool.true_or, Bool.false_or, Bool.or_true, Bool.or_false, Int.reduceEq, Int.reduceNe, Int.reduceLT, Int.reduceLE, Int.toNat_natCast, toNat_add1] at h15
                  all_goals try (first | contradiction | (exfalso; omega))
                  all_goals (
                    refine runs_skip ?_
                    refine seq_normal ?_
                    refine runs_seq ?_
                    refine runs_seq ?_
                    refine runs_keep [9, 8] rfl ?_
                    refine runs_region ?_
                    refine ops_fl rfl rfl rfl (fl_move rfl rfl ?_)
                    refine ops_fl rfl rfl rfl (fl_move rfl rfl ?_)
                    refine ops_fl rfl rfl rfl (fl_gtr rfl rfl rfl ?_)
                    refine ops_nil ?_
                    refine seq_normal ?_
                    refine runs_cond rfl (fun h17 => ?_) (fun h17 => ?_)
                    · try simp only [decide_eq_true_eq, decide_eq_false_iff_not, Bool.not_eq_true', Bool.not_eq_false', Bool.not_true, Bool.not_false, Int.not_lt, Int.not_le, Bool.and_eq_true, Bool.or_eq_true, Bool.and_eq_false_iff, Bool.or_eq_false_iff, Bool.false_eq_true, Bool.true_eq_false, not_true_eq_false, not_false_eq_true, decide_true, decide_false, true_and, and_true, false_and, and_false, true_or, or_true, false_or, or_false, Bool.true_and, Bool.false_and, Bool.and_true, Bool.and_false, Bool.true_or, Bool.false_or, Bool.or_true, Bool.or_false, Int.reduceEq, Int.reduceNe, Int.reduceLT, Int.reduceLE, Int.toNat_natCast, toNat_add1] at h17
                      all_goals try (first | contradiction | (exfalso; omega))
                      all_goals (
                        refine runs_seq ?_
                        refine runs_keep [9] rfl ?_
                        refine runs_region ?_
                        refine ops_fl rfl rfl rfl (fl_move rfl rfl ?_)
                        refine ops_fl rfl rfl rfl (fl_assign rfl rfl ?_)
                        refine ops_nil ?_
                        refine seq_normal ?_
                        refine runs_ret ?_
                        refine seq_ret ?_
                        refine fin_ret ?_
                        refine fin_d1 rfl rfl ?_
                        rw [show (Lev.imax a b).worth (pval ps ns) = b.worth (pval ps ns) by simp only [Lev.worth, h15, if_false]; omega]
                      )
                    · try simp only [decide_eq_true_eq, decide_eq_false_iff_not, Bool.not_eq_true', Bool.not_eq_false', Bool.not_true, Bool.not_false, Int.not_lt, Int.not_le, Bool.and_eq_true, Bool.or_eq_true, Bool.and_eq_false_iff, Bool.or_eq_false_iff, Bool.false_eq_true, Bool.true_eq_false, not_true_eq_false, not_false_eq_true, decide_true, decide_false, true_and, and_true, false_and, and_false, true_or, or_true, false_or, or_false, Bool.true_and, Bool.false_and, Bool.and_true, Bool.and_false, Bool.true_or, Bool.false_or, Bool.or_true, Bool.or_false, Int.reduceEq, Int.reduceNe, Int.reduceLT, Int.reduceLE, Int.toNat_natCast, toNat_add1] at h17
                      all_goals try (first | contradiction | (exfalso; omega))
                      all_goals (
                        refine runs_skip ?_
                        refine seq_normal ?_
                        refine runs_seq ?_
                        refine runs_keep [8] rfl ?_
                        refine runs_region ?_
                        refine ops_fl rfl rfl rfl (fl_move rfl rfl ?_)
                        refine ops_fl rfl rfl rfl (fl_assign rfl rfl ?_)
                        refine ops_nil ?_
                        refine seq_normal ?_
                        refine runs_ret ?_
                        refine fin_ret ?_
                        refine fin_d1 rfl rfl ?_
                        rw [show (Lev.imax a b).worth (pval ps ns) = a.worth (pval ps ns) by simp only [Lev.worth, h15, if_false]; omega]
                      )
                  )
              )
          )
      )
end Go.Proofs.YtafhnnbbfgoacaaDoor
