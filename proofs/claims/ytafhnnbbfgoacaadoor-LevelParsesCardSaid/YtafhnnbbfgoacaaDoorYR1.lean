/-
  What is proved here: contracts of the reference's functions on levels: among, Params, Worth, SameLevel.
-/
import Derived.Test.YtafhnnbbfgoacaaDoorYData
import Derived.Test.YtafhnnbbfgoacaaDoorYFacts
set_option linter.unusedSimpArgs false
set_option linter.unusedVariables false
namespace Go.Proofs.YtafhnnbbfgoacaaDoor
open Go Go.Vd Go.RowKit
attribute [local irreducible] Runs OpsR OpR FloatR AnyR
variable {gl : Nat → List D}

theorem among_spec (name : ByteArray) (l : List ByteArray) (hl : l.length ≤ 281474976710656) : TriD Tryd.prog gl 27 [.v (.string name), strsD l] (· = .v (.bool (memB name l))) := by
  refine triD_of_runs Tryd.func27 rfl Tryd.ntmps27 (rs := [.tmp 4]) rfl rfl rfl ?_
  have hlen := strs_len l
  refine runs_seq ?_
  refine runs_region ?_
  refine ops_fl rfl rfl rfl (fl_assign rfl rfl ?_)
  refine ops_nil ?_
  refine seq_normal ?_
  refine runs_seq ?_
  refine runs_seq ?_
  refine runs_region ?_
  refine ops_fl rfl rfl rfl (fl_assign rfl rfl ?_)
  refine ops_nil ?_
  refine seq_normal ?_
  refine runs_block ?_
  refine runs_keep [5, 0, 1] rfl ?_
  apply runs_loop_c (ι := Nat) (fun i => [(5, int i)]) [0, 1] (fun i => i ≤ l.length ∧ name ∉ l.take i) (fun i => l.length - i) (0)
  case hk => exact rfl
  case hI =>
    exact ⟨by omega, by simp⟩
  case hm =>
    refine meets_of rfl rfl rfl ?_ (.cons rfl (by first | exact .refl _ | exact .toD rfl | exact .nilD | exact Fit.of_eq rfl | exact .dle rfl (by repeat' (first | exact DLe.refl _ | exact DLe.nil | exact DLeL.nil | exact DLeLL.nil | apply DLe.agg | apply DLe.tup | apply DLe.sl | apply DLe.cp | apply DLeL.cons | apply DLeLL.cons))) (.cons rfl (by first | exact .refl _ | exact .toD rfl | exact .nilD | exact Fit.of_eq rfl | exact .dle rfl (by repeat' (first | exact DLe.refl _ | exact DLe.nil | exact DLeL.nil | exact DLeLL.nil | apply DLe.agg | apply DLe.tup | apply DLe.sl | apply DLe.cp | apply DLeL.cons | apply DLeLL.cons))) (.cons rfl (by first | exact .refl _ | exact .toD rfl | exact .nilD | exact Fit.of_eq rfl | exact .dle rfl (by repeat' (first | exact DLe.refl _ | exact DLe.nil | exact DLeL.nil | exact DLeLL.nil | apply DLe.agg | apply DLe.tup | apply DLe.sl | apply DLe.cp | apply DLeL.cons | apply DLeLL.cons))) .nil)))
    repeat (first | exact .nil | refine .cons rfl (.cells rfl (FitL.rfl _)) ?_ | refine .cons rfl (.cells rfl (by repeat (first | exact .nil | refine .cons (by first | exact .refl _ | exact .toD rfl | exact .nil rfl | exact .nilD | exact Fit.of_eq rfl) ?_))) ?_ | refine .cons rfl .row ?_ | refine .cons rfl .mapI ?_ | refine .cons rfl .nnrow ?_ | refine .cons rfl .nrow ?_ | refine .cons rfl .dead ?_)
  case h =>
    rintro i hinv
    try dsimp only at hinv
    refine runs_keep [5, 0, 1] rfl ?_
    refine runs_seq ?_
    refine runs_seq ?_
    refine runs_region ?_
    refine ops_fl rfl rfl rfl (fl_move rfl rfl ?_)
    refine ops_fl rfl rfl rfl (fl_move rfl rfl ?_)
    first
    | refine ops_fl rfl rfl rfl (fl_len us36 rfl rfl ?_)
    | refine ops_fl rfl rfl rfl (fl_len_own us36 rfl rfl ?_)
    | refine ops_fl rfl rfl rfl (fl_len_nil us36 rfl rfl ?_)
    refine ops_fl rfl rfl rfl (fl_lss rfl rfl rfl ?_)
    refine ops_nil ?_
    refine seq_normal ?_
    refine runs_cond rfl (fun h2 => ?_) (fun h2 => ?_)
    · try simp only [decide_eq_true_eq, decide_eq_false_iff_not, Bool.not_eq_true', Bool.not_eq_false', Bool.not_true, Bool.not_false, Int.not_lt, Int.not_le, Bool.and_eq_true, Bool.or_eq_true, Bool.and_eq_false_iff, Bool.or_eq_false_iff, Bool.false_eq_true, Bool.true_eq_false, not_true_eq_false, not_false_eq_true, decide_true, decide_false, true_and, and_true, false_and, and_false, true_or, or_true, false_or, or_false, Bool.true_and, Bool.false_and, Bool.and_true, Bool.and_false, Bool.true_or, Bool.false_or, Bool.or_true, Bool.or_false, Int.reduceEq, Int.reduceNe, Int.reduceLT, Int.reduceLE, Int.toNat_natCast, toNat_add1] at h2
      all_goals try (first | contradiction | (exfalso; omega))
      all_goals (
        refine runs_skip ?_
        refine seq_normal ?_
        refine runs_seq ?_
        refine runs_block ?_
        refine runs_seq ?_
        refine runs_keep [5, 0, 1] rfl ?_
        refine runs_region ?_
        refine ops_fl rfl rfl rfl (fl_move rfl rfl ?_)
        refine ops_fl rfl rfl rfl (fl_move rfl rfl ?_)
        first
        | refine ops_fl rfl rfl rfl (fl_index us36 te36 rfl rfl rfl rfl rfl (by omega) (str_at (by omega)) ?_)
        | refine ops_fl rfl rfl rfl (fl_index_own us36 te36 rfl rfl rfl rfl rfl (by omega) (str_at (by omega)) ?_)
        first
        | refine ops_fl rfl rfl rfl (fl_load_blk ti9 rfl rfl rfl rfl rfl rfl rfl ?_)
        | refine ops_fl rfl rfl rfl (fl_load_cp ti9 rfl rfl rfl rfl rfl rfl ?_)
        refine ops_fl rfl rfl rfl (fl_move rfl rfl ?_)
        refine ops_fl rfl rfl rfl (fl_seql rfl rfl rfl ?_)
        refine ops_nil ?_
        refine seq_normal ?_
        refine runs_cond rfl (fun h4 => ?_) (fun h4 => ?_)
        · try simp only [decide_eq_true_eq, decide_eq_false_iff_not, Bool.not_eq_true', Bool.not_eq_false', Bool.not_true, Bool.not_false, Int.not_lt, Int.not_le, Bool.and_eq_true, Bool.or_eq_true, Bool.and_eq_false_iff, Bool.or_eq_false_iff, Bool.false_eq_true, Bool.true_eq_false, not_true_eq_false, not_false_eq_true, decide_true, decide_false, true_and, and_true, false_and, and_false, true_or, or_true, false_or, or_false, Bool.true_and, Bool.false_and, Bool.and_true, Bool.and_false, Bool.true_or, Bool.false_or, Bool.or_true, Bool.or_false, Int.reduceEq, Int.reduceNe, Int.reduceLT, Int.reduceLE, Int.toNat_natCast, toNat_add1] at h4
          all_goals try (first | contradiction | (exfalso; omega))
          all_goals (
            refine runs_seq ?_
            refine runs_keep [] rfl ?_
            refine runs_region ?_
            refine ops_fl rfl rfl rfl (fl_assign rfl rfl ?_)
            refine ops_nil ?_
            refine seq_normal ?_
            refine runs_ret ?_
            refine inb_ret ?_
            refine seq_ret ?_
            refine seq_ret ?_
            refine inb_ret ?_
            refine seq_ret ?_
            refine fin_ret ?_
            refine fin_d1 rfl rfl ?_
            rw [memB_true (by omega) h4]
          )
        · try simp only [decide_eq_true_eq, decide_eq_false_iff_not, Bool.not_eq_true', Bool.not_eq_false', Bool.not_true, Bool.not_false, Int.not_lt, Int.not_le, Bool.and_eq_true, Bool.or_eq_true, Bool.and_eq_false_iff, Bool.or_eq_false_iff, Bool.false_eq_true, Bool.true_eq_false, not_true_eq_false, not_false_eq_true, decide_true, decide_false, true_and, and_true, false_and, and_false, true_or, or_true, false_or, or_false, Bool.true_and, Bool.false_and, Bool.and_true, Bool.and_false, Bool.true_or, Bool.false_or, Bool.or_true, Bool.or_false, Int.reduceEq, Int.reduceNe, Int.reduceLT, Int.reduceLE, Int.toNat_natCast, toNat_add1] at h4
          all_goals try (first | contradiction | (exfalso; omega))
          all_goals (
            refine runs_skip ?_
            refine inb_normal ?_
            refine seq_normal ?_
            refine runs_keep [5, 0, 1] rfl ?_
            refine runs_region ?_
            refine ops_fl rfl rfl rfl (fl_move rfl rfl ?_)
            refine ops_fl rfl rfl rfl (fl_add rfl rfl rfl (by omega) ?_)
            refine ops_fl rfl rfl rfl (fl_assign rfl rfl ?_)
            refine ops_nil ?_
            refine seq_back ?_
            refine back_i (i + 1) rfl ?_ ?_
            · exact ⟨⟨by omega, not_mem_take_succ (by omega) hinv.2 h4⟩, by omega⟩
            · refine meets_of rfl rfl rfl ?_ (.cons rfl (by first | exact .refl _ | exact .toD rfl | exact .nilD | exact Fit.of_eq rfl | exact .dle rfl (by repeat' (first | exact DLe.refl _ | exact DLe.nil | exact DLeL.nil | exact DLeLL.nil | apply DLe.agg | apply DLe.tup | apply DLe.sl | apply DLe.cp | apply DLeL.cons | apply DLeLL.cons))) (.cons rfl (by first | exact .refl _ | exact .toD rfl | exact .nilD | exact Fit.of_eq rfl | exact .dle rfl (by repeat' (first | exact DLe.refl _ | exact DLe.nil | exact DLeL.nil | exact DLeLL.nil | apply DLe.agg | apply DLe.tup | apply DLe.sl | apply DLe.cp | apply DLeL.cons | apply DLeLL.cons))) (.cons rfl (by first | exact .refl _ | exact .toD rfl | exact .nilD | exact Fit.of_eq rfl | exact .dle rfl (by repeat' (first | exact DLe.refl _ | exact DLe.nil | exact DLeL.nil | exact DLeLL.nil | apply DLe.agg | apply DLe.tup | apply DLe.sl | apply DLe.cp | apply DLeL.cons | apply DLeLL.cons))) .nil)))
              repeat (first | exact .nil | refine .cons rfl (.cells rfl (FitL.rfl _)) ?_ | refine .cons rfl (.cells rfl (by repeat (first | exact .nil | refine .cons (by first | exact .refl _ | exact .toD rfl | exact .nil rfl | exact .nilD | exact Fit.of_eq rfl) ?_))) ?_ | refine .cons rfl .row ?_ | refine .cons rfl .mapI ?_ | refine .cons rfl .nnrow ?_ | refine .cons rfl .nrow ?_ | refine .cons rfl .dead ?_)
          )
      )
    · try simp only [decide_eq_true_eq, decide_eq_false_iff_not, Bool.not_eq_true', Bool.not_eq_false', Bool.not_true, Bool.not_false, Int.not_lt, Int.not_le, Bool.and_eq_true, Bool.or_eq_true, Bool.and_eq_false_iff, Bool.or_eq_false_iff, Bool.false_eq_true, Bool.true_eq_false, not_true_eq_false, not_false_eq_true, decide_true, decide_false, true_and, and_true, false_and, and_false, true_or, or_true, false_or, or_false, Bool.true_and, Bool.false_and, Bool.and_true, Bool.and_false, Bool.true_or, Bool.false_or, Bool.or_true, Bool.or_false, Int.reduceEq, Int.reduceNe, Int.reduceLT, Int.reduceLE, Int.toNat_natCast, toNat_add1] at h2
      all_goals try (first | contradiction | (exfalso; omega))
      all_goals (
        refine runs_exit ?_
        refine seq_exit ?_
        refine seq_exit ?_
        refine inb_exit ?_
        refine seq_normal ?_
        refine runs_seq ?_
        refine runs_keep [] rfl ?_
        refine runs_region ?_
        refine ops_fl rfl rfl rfl (fl_assign rfl rfl ?_)
        refine ops_nil ?_
        refine seq_normal ?_
        refine runs_ret ?_
        refine fin_ret ?_
        refine fin_d1 rfl rfl ?_
        rw [memB_false]
        have : l.take i = l := List.take_of_length_le (by omega)
        rw [← this]; exact hinv.2
      )

theorem params_spec : ∀ (n : Nat) (k : Int) (s : ByteArray) (args : List Lvl) (ah : List ByteArray), (Lvl.mk k s args).size ≤ n → ah.length + (Lvl.mk k s args).size ≤ 1099511627776 →
    Tri Tryd.prog gl 10 [.row 9 1] [.d (Lvl.mk k s args).d, .own 0 1 (strs ah)] fun out ob' => out = .ret (.own 0 1 (strs ((Lvl.mk k s args).params ah))) ∧ ob' = [.row 9 1] := by
  intro n
  induction n with
  | zero => intro k s args ah h; simp [Lvl.size] at h
  | succ n ih =>
    intro k s args ah hn hb
    have hsz : sizes args ≤ n := by simp [Lvl.size] at hn; omega
    have hlen := lvls_len args
    have hlen2 := strs_len ah
    have hlb := lvls_size args
    simp only [Lvl.size] at hb
    refine triS_of_runs Tryd.func10 rfl Tryd.ntmps10 (rs := [.tmp 4]) rfl rfl rfl 1 rfl ?_
    refine runs_seq ?_
    refine runs_region ?_
    refine ops_cons (T := fun _ => False) rfl (op_box ti31 rfl rfl rfl rfl rfl (by simp only [List.length_cons, List.length_nil, Nat.reduceAdd]; rfl) rfl ?_)
    refine ops_fl rfl rfl rfl (fl_assign rfl rfl ?_)
    refine ops_nil ?_
    refine seq_normal ?_
    refine runs_seq ?_
    refine runs_seq ?_
    refine runs_region ?_
    first
    | refine ops_fl rfl rfl rfl (fl_field_blk ti31 rfl rfl rfl rfl ?_)
    | refine ops_fl rfl rfl rfl (fl_field_cp ti31 rfl rfl rfl rfl rfl ?_)
    first
    | refine ops_fl rfl rfl rfl (fl_load_blk ti3 rfl rfl rfl rfl rfl rfl rfl ?_)
    | refine ops_fl rfl rfl rfl (fl_load_cp ti3 rfl rfl rfl rfl rfl rfl ?_)
    refine ops_fl rfl rfl rfl (fl_eql rfl rfl rfl ?_)
    refine ops_nil ?_
    refine seq_normal ?_
    refine runs_cond rfl (fun h1 => ?_) (fun h1 => ?_)
    · try simp only [decide_eq_true_eq, decide_eq_false_iff_not, Bool.not_eq_true', Bool.not_eq_false', Bool.not_true, Bool.not_false, Int.not_lt, Int.not_le, Bool.and_eq_true, Bool.or_eq_true, Bool.and_eq_false_iff, Bool.or_eq_false_iff, Bool.false_eq_true, Bool.true_eq_false, not_true_eq_false, not_false_eq_true, decide_true, decide_false, true_and, and_true, false_and, and_false, true_or, or_true, false_or, or_false, Bool.true_and, Bool.false_and, Bool.and_true, Bool.and_false, Bool.true_or, Bool.false_or, Bool.or_true, Bool.or_false, Int.reduceEq, Int.reduceNe, Int.reduceLT, Int.reduceLE, Int.toNat_natCast, toNat_add1] at h1
      all_goals try (first | contradiction | (exfalso; omega))
      all_goals (
        refine runs_seq ?_
        refine runs_keep [2, 1] rfl ?_
        refine runs_region ?_
        first
        | refine ops_fl rfl rfl rfl (fl_field_blk ti31 rfl rfl rfl rfl ?_)
        | refine ops_fl rfl rfl rfl (fl_field_cp ti31 rfl rfl rfl rfl rfl ?_)
        first
        | refine ops_fl rfl rfl rfl (fl_load_blk ti9 rfl rfl rfl rfl rfl rfl rfl ?_)
        | refine ops_fl rfl rfl rfl (fl_load_cp ti9 rfl rfl rfl rfl rfl rfl ?_)
        refine ops_fl rfl rfl rfl (fl_move rfl rfl ?_)
        refine ops_cons (T := fun _ => False) rfl (op_call ca27 rfl rfl rfl rfl (among_spec s ah (by omega)) (.cons (by first | exact .refl _ | exact .toD rfl | exact .nilD | exact .dle rfl (by repeat' (first | exact DLe.refl _ | exact DLe.nil | exact DLeL.nil | exact DLeLL.nil | apply DLe.agg | apply DLe.tup | apply DLe.sl | apply DLe.cp | apply DLeL.cons | apply DLeLL.cons))) (.cons (by first | exact .refl _ | exact .toD rfl | exact .nilD | exact .dle rfl (by repeat' (first | exact DLe.refl _ | exact DLe.nil | exact DLeL.nil | exact DLeLL.nil | apply DLe.agg | apply DLe.tup | apply DLe.sl | apply DLe.cp | apply DLeL.cons | apply DLeLL.cons))) .nil)) (fun d hd => ?_))
        obtain rfl := hd
        refine ops_fl rfl rfl rfl (fl_assign rfl rfl ?_)
        refine ops_nil ?_
        refine seq_normal ?_
        refine runs_seq ?_
        refine runs_seq ?_
        refine runs_keep [5, 2, 1] rfl ?_
        refine runs_region ?_
        refine ops_fl rfl rfl rfl (fl_move rfl rfl ?_)
        refine ops_fl rfl rfl rfl (fl_not rfl rfl ?_)
        refine ops_nil ?_
        refine seq_normal ?_
        refine runs_cond rfl (fun h3 => ?_) (fun h3 => ?_)
        · try simp only [decide_eq_true_eq, decide_eq_false_iff_not, Bool.not_eq_true', Bool.not_eq_false', Bool.not_true, Bool.not_false, Int.not_lt, Int.not_le, Bool.and_eq_true, Bool.or_eq_true, Bool.and_eq_false_iff, Bool.or_eq_false_iff, Bool.false_eq_true, Bool.true_eq_false, not_true_eq_false, not_false_eq_true, decide_true, decide_false, true_and, and_true, false_and, and_false, true_or, or_true, false_or, or_false, Bool.true_and, Bool.false_and, Bool.and_true, Bool.and_false, Bool.true_or, Bool.false_or, Bool.or_true, Bool.or_false, Int.reduceEq, Int.reduceNe, Int.reduceLT, Int.reduceLE, Int.toNat_natCast, toNat_add1] at h3
          all_goals try (first | contradiction | (exfalso; omega))
          all_goals (
            refine runs_region ?_
            refine ops_fl rfl rfl rfl (fl_move rfl rfl ?_)
            first
            | refine ops_fl rfl rfl rfl (fl_field_blk ti31 rfl rfl rfl rfl ?_)
            | refine ops_fl rfl rfl rfl (fl_field_cp ti31 rfl rfl rfl rfl rfl ?_)
            first
            | refine ops_fl rfl rfl rfl (fl_load_blk ti9 rfl rfl rfl rfl rfl rfl rfl ?_)
            | refine ops_fl rfl rfl rfl (fl_load_cp ti9 rfl rfl rfl rfl rfl rfl ?_)
            refine ops_cons (T := fun _ => False) rfl (op_lit sl36 [.tmp 18] ti9 rfl rfl rfl rfl rfl rfl rfl (by decide) (by decide) (by decide) (by simp only [List.length_cons, List.length_nil, Nat.reduceAdd]; rfl) rfl ?_)
            first
            | refine ops_cons rfl (op_append sl36 rfl rfl rfl rfl rfl rfl rfl (.inl rfl) (by decide) (by simp) (by first | decide | (simp only [maxLen, List.length_cons, List.length_nil, List.length_append, List.length_map]; omega) | omega) rfl rfl rfl ?_)
            | refine ops_cons (T := fun _ => False) rfl (op_append_nil sl36 rfl rfl rfl rfl rfl rfl (by simp only [List.length_cons, List.length_nil, Nat.reduceAdd]; rfl) rfl rfl (by decide) (by simp) (by first | decide | (simp only [maxLen, List.length_cons, List.length_nil, List.length_append, List.length_map]; omega) | omega) rfl rfl rfl ?_)
            refine ops_fl rfl rfl rfl (fl_assign rfl rfl ?_)
            refine ops_nil ?_
            refine seq_normal ?_
            refine runs_seq ?_
            refine runs_keep [1] rfl ?_
            refine runs_region ?_
            refine ops_fl rfl rfl rfl (fl_move rfl rfl ?_)
            refine ops_fl rfl rfl rfl (fl_assign rfl rfl ?_)
            refine ops_nil ?_
            refine seq_normal ?_
            refine runs_ret ?_
            refine seq_ret ?_
            refine fin_ret ?_
            refine fin_o ⟨_, _, rfl, rfl, rfl⟩ [0] (.own 0 1 (strs (ah ++ [s]))) ([.row 9 1]) rfl rfl rfl ?_ rfl ?_ ?_
            · repeat (first | exact .nil | refine .cons rfl (.cells rfl (FitL.rfl _)) ?_ | refine .cons rfl (.cells rfl (by repeat (first | exact .nil | refine .cons (by first | exact .refl _ | exact .toD rfl | exact .nil rfl | exact .nilD | exact Fit.of_eq rfl) ?_))) ?_ | refine .cons rfl .row ?_ | refine .cons rfl .mapI ?_ | refine .cons rfl .nnrow ?_ | refine .cons rfl .nrow ?_ | refine .cons rfl .dead ?_ | refine .cons rfl (.cells rfl ?_) ?_ | refine .cons (by first | exact .refl _ | exact .toD rfl | exact .nilD) ?_)
            · exact Fit.of_eq (by rw [← strs_app]; rfl)
            · refine ⟨?_, rfl⟩; simp only [Lvl.params, if_pos (show k = 4 by omega), h3]; rfl
          )
        · try simp only [decide_eq_true_eq, decide_eq_false_iff_not, Bool.not_eq_true', Bool.not_eq_false', Bool.not_true, Bool.not_false, Int.not_lt, Int.not_le, Bool.and_eq_true, Bool.or_eq_true, Bool.and_eq_false_iff, Bool.or_eq_false_iff, Bool.false_eq_true, Bool.true_eq_false, not_true_eq_false, not_false_eq_true, decide_true, decide_false, true_and, and_true, false_and, and_false, true_or, or_true, false_or, or_false, Bool.true_and, Bool.false_and, Bool.and_true, Bool.and_false, Bool.true_or, Bool.false_or, Bool.or_true, Bool.or_false, Int.reduceEq, Int.reduceNe, Int.reduceLT, Int.reduceLE, Int.toNat_natCast, toNat_add1] at h3
          all_goals try (first | contradiction | (exfalso; omega))
          all_goals (
            refine runs_skip ?_
            refine seq_normal ?_
            refine runs_seq ?_
            refine runs_keep [1] rfl ?_
            refine runs_region ?_
            refine ops_fl rfl rfl rfl (fl_move rfl rfl ?_)
            refine ops_fl rfl rfl rfl (fl_assign rfl rfl ?_)
            refine ops_nil ?_
            refine seq_normal ?_
            refine runs_ret ?_
            refine seq_ret ?_
            refine fin_ret ?_
            refine fin_o ⟨_, _, rfl, rfl, rfl⟩ [0] (.own 0 1 (strs ah)) ([.row 9 1]) rfl rfl rfl ?_ rfl ?_ ?_
            · repeat (first | exact .nil | refine .cons rfl (.cells rfl (FitL.rfl _)) ?_ | refine .cons rfl (.cells rfl (by repeat (first | exact .nil | refine .cons (by first | exact .refl _ | exact .toD rfl | exact .nil rfl | exact .nilD | exact Fit.of_eq rfl) ?_))) ?_ | refine .cons rfl .row ?_ | refine .cons rfl .mapI ?_ | refine .cons rfl .nnrow ?_ | refine .cons rfl .nrow ?_ | refine .cons rfl .dead ?_ | refine .cons rfl (.cells rfl ?_) ?_ | refine .cons (by first | exact .refl _ | exact .toD rfl | exact .nilD) ?_)
            · first | exact .refl _ | exact .toD rfl | exact .nilD
            · refine ⟨?_, rfl⟩; simp only [Lvl.params, if_pos (show k = 4 by omega), h3]; rfl
          )
      )
    · try simp only [decide_eq_true_eq, decide_eq_false_iff_not, Bool.not_eq_true', Bool.not_eq_false', Bool.not_true, Bool.not_false, Int.not_lt, Int.not_le, Bool.and_eq_true, Bool.or_eq_true, Bool.and_eq_false_iff, Bool.or_eq_false_iff, Bool.false_eq_true, Bool.true_eq_false, not_true_eq_false, not_false_eq_true, decide_true, decide_false, true_and, and_true, false_and, and_false, true_or, or_true, false_or, or_false, Bool.true_and, Bool.false_and, Bool.and_true, Bool.and_false, Bool.true_or, Bool.false_or, Bool.or_true, Bool.or_false, Int.reduceEq, Int.reduceNe, Int.reduceLT, Int.reduceLE, Int.toNat_natCast, toNat_add1] at h1
      all_goals try (first | contradiction | (exfalso; omega))
      all_goals (
        refine runs_skip ?_
        refine seq_normal ?_
        refine runs_seq ?_
        refine runs_seq ?_
        refine runs_keep [2, 1] rfl ?_
        refine runs_region ?_
        refine ops_fl rfl rfl rfl (fl_assign rfl rfl ?_)
        refine ops_nil ?_
        refine seq_normal ?_
        refine runs_block ?_
        apply runs_loop_c (ι := Nat) (fun i => [(6, int i), (1, .own 0 1 (strs (paramsL (args.take i) ah)))]) [2] (fun i => i ≤ args.length) (fun i => args.length - i) (0)
        case hk => exact rfl
        case hI =>
          exact Nat.zero_le _
        case hm =>
          refine meets_of rfl rfl rfl ?_ (.cons rfl (by first | exact .refl _ | exact .toD rfl | exact .nilD | exact Fit.of_eq rfl | exact .dle rfl (by repeat' (first | exact DLe.refl _ | exact DLe.nil | exact DLeL.nil | exact DLeLL.nil | apply DLe.agg | apply DLe.tup | apply DLe.sl | apply DLe.cp | apply DLeL.cons | apply DLeLL.cons))) (.cons rfl (by first | exact .refl _ | exact .toD rfl | exact .nilD | exact Fit.of_eq rfl | exact .dle rfl (by repeat' (first | exact DLe.refl _ | exact DLe.nil | exact DLeL.nil | exact DLeLL.nil | apply DLe.agg | apply DLe.tup | apply DLe.sl | apply DLe.cp | apply DLeL.cons | apply DLeLL.cons))) (.cons rfl (by first | exact .refl _ | exact .toD rfl | exact .nilD | exact Fit.of_eq rfl | exact .dle rfl (by repeat' (first | exact DLe.refl _ | exact DLe.nil | exact DLeL.nil | exact DLeLL.nil | apply DLe.agg | apply DLe.tup | apply DLe.sl | apply DLe.cp | apply DLeL.cons | apply DLeLL.cons))) .nil)))
          repeat (first | exact .nil | refine .cons rfl (.cells rfl (FitL.rfl _)) ?_ | refine .cons rfl (.cells rfl (by repeat (first | exact .nil | refine .cons (by first | exact .refl _ | exact .toD rfl | exact .nil rfl | exact .nilD | exact Fit.of_eq rfl) ?_))) ?_ | refine .cons rfl .row ?_ | refine .cons rfl .mapI ?_ | refine .cons rfl .nnrow ?_ | refine .cons rfl .nrow ?_ | refine .cons rfl .dead ?_)
        case h =>
          rintro i hinv
          try dsimp only at hinv
          refine runs_keep [6, 1, 2] rfl ?_
          refine runs_seq ?_
          refine runs_seq ?_
          refine runs_region ?_
          refine ops_fl rfl rfl rfl (fl_move rfl rfl ?_)
          first
          | refine ops_fl rfl rfl rfl (fl_field_blk ti31 rfl rfl rfl rfl ?_)
          | refine ops_fl rfl rfl rfl (fl_field_cp ti31 rfl rfl rfl rfl rfl ?_)
          first
          | refine ops_fl rfl rfl rfl (fl_load_blk ti29 rfl rfl rfl rfl rfl rfl rfl ?_)
          | refine ops_fl rfl rfl rfl (fl_load_cp ti29 rfl rfl rfl rfl rfl rfl ?_)
          first
          | refine ops_fl rfl rfl rfl (fl_len us29 rfl rfl ?_)
          | refine ops_fl rfl rfl rfl (fl_len_own us29 rfl rfl ?_)
          | refine ops_fl rfl rfl rfl (fl_len_nil us29 rfl rfl ?_)
          refine ops_fl rfl rfl rfl (fl_lss rfl rfl rfl ?_)
          refine ops_nil ?_
          refine seq_normal ?_
          refine runs_cond rfl (fun h7 => ?_) (fun h7 => ?_)
          · try simp only [decide_eq_true_eq, decide_eq_false_iff_not, Bool.not_eq_true', Bool.not_eq_false', Bool.not_true, Bool.not_false, Int.not_lt, Int.not_le, Bool.and_eq_true, Bool.or_eq_true, Bool.and_eq_false_iff, Bool.or_eq_false_iff, Bool.false_eq_true, Bool.true_eq_false, not_true_eq_false, not_false_eq_true, decide_true, decide_false, true_and, and_true, false_and, and_false, true_or, or_true, false_or, or_false, Bool.true_and, Bool.false_and, Bool.and_true, Bool.and_false, Bool.true_or, Bool.false_or, Bool.or_true, Bool.or_false, Int.reduceEq, Int.reduceNe, Int.reduceLT, Int.reduceLE, Int.toNat_natCast, toNat_add1] at h7
            all_goals try (first | contradiction | (exfalso; omega))
            all_goals (
              refine runs_skip ?_
              refine seq_normal ?_
              refine runs_seq ?_
              refine runs_block ?_
              refine runs_keep [6, 1, 2] rfl ?_
              refine runs_region ?_
              first
              | refine ops_fl rfl rfl rfl (fl_field_blk ti31 rfl rfl rfl rfl ?_)
              | refine ops_fl rfl rfl rfl (fl_field_cp ti31 rfl rfl rfl rfl rfl ?_)
              first
              | refine ops_fl rfl rfl rfl (fl_load_blk ti29 rfl rfl rfl rfl rfl rfl rfl ?_)
              | refine ops_fl rfl rfl rfl (fl_load_cp ti29 rfl rfl rfl rfl rfl rfl ?_)
              refine ops_fl rfl rfl rfl (fl_move rfl rfl ?_)
              obtain ⟨k', s', a', hget⟩ := lvl_get (show i < args.length by omega)
              have hsz' := size_get hget
              have hlt := paramsL_len (args.take i) ah
              have hst := sizes_take hget
              have hsl := sizes_take_le args (i + 1)
              first
              | refine ops_fl rfl rfl rfl (fl_index us29 te29 rfl rfl rfl rfl rfl (by omega) (lvl_at hget) ?_)
              | refine ops_fl rfl rfl rfl (fl_index_own us29 te29 rfl rfl rfl rfl rfl (by omega) (lvl_at hget) ?_)
              first
              | refine ops_fl rfl rfl rfl (fl_load_blk ti31 rfl rfl rfl rfl rfl rfl rfl ?_)
              | refine ops_fl rfl rfl rfl (fl_load_cp ti31 rfl rfl rfl rfl rfl rfl ?_)
              | refine ops_fl rfl rfl rfl (fl_load_all ti31 rfl rfl rfl rfl (by first | rfl | exact Lvl.cells_len _) ?_)
              refine ops_fl rfl rfl rfl (fl_move rfl rfl ?_)
              refine ops_cons rfl (op_callo ca10 rfl rfl rfl rfl (ih k' s' a' (paramsL (args.take i) ah) (by omega) (by omega)) [0] (.cons rfl (by first | exact .cells rfl (FitL.rfl _) | exact .row | exact .nrow | exact .mapI | exact .nnrow | (refine .cells rfl ?_; repeat (first | exact .nil | refine .cons (by first | exact .refl _ | exact .toD rfl | exact .nil rfl | exact .nilD) ?_))) .nil) rfl rfl rfl rfl (.cons (by first | exact .refl _ | exact .toD rfl | exact .nil rfl | exact .nilD | exact .dle rfl (by repeat' (first | exact DLe.refl _ | exact DLe.nil | exact DLeL.nil | exact DLeLL.nil | apply DLe.agg | apply DLe.tup | apply DLe.sl | apply DLe.cp | apply DLeL.cons | apply DLeLL.cons))) (.cons (by first | exact .refl _ | exact .toD rfl | exact .nil rfl | exact .nilD | exact .dle rfl (by repeat' (first | exact DLe.refl _ | exact DLe.nil | exact DLeL.nil | exact DLeLL.nil | apply DLe.agg | apply DLe.tup | apply DLe.sl | apply DLe.cp | apply DLeL.cons | apply DLeLL.cons))) .nil)) (fun s ob' hq => ?_) (fun s ob' hq => ?_))
              rotate_left
              · first | exact hq.elim | cases hq.1
              obtain ⟨hq1, rfl⟩ := hq
              cases hq1
              rw [← paramsL_take hget]; refine ⟨_, _, _, _, _, rfl, rfl, rfl, rfl, rfl, ?_⟩
              refine ops_fl rfl rfl rfl (fl_assign rfl rfl ?_)
              refine ops_nil ?_
              refine inb_normal ?_
              refine seq_normal ?_
              refine runs_keep [1, 6, 2] rfl ?_
              refine runs_region ?_
              refine ops_fl rfl rfl rfl (fl_move rfl rfl ?_)
              refine ops_fl rfl rfl rfl (fl_add rfl rfl rfl (by omega) ?_)
              refine ops_fl rfl rfl rfl (fl_assign rfl rfl ?_)
              refine ops_nil ?_
              refine seq_back ?_
              refine back_i (i + 1) rfl ?_ ?_
              · exact ⟨by omega, by omega⟩
              · refine meets_of rfl rfl rfl ?_ (.cons rfl (by first | exact .refl _ | exact .toD rfl | exact .nilD | exact Fit.of_eq rfl | exact .dle rfl (by repeat' (first | exact DLe.refl _ | exact DLe.nil | exact DLeL.nil | exact DLeLL.nil | apply DLe.agg | apply DLe.tup | apply DLe.sl | apply DLe.cp | apply DLeL.cons | apply DLeLL.cons))) (.cons rfl (by first | exact .refl _ | exact .toD rfl | exact .nilD | exact Fit.of_eq rfl | exact .dle rfl (by repeat' (first | exact DLe.refl _ | exact DLe.nil | exact DLeL.nil | exact DLeLL.nil | apply DLe.agg | apply DLe.tup | apply DLe.sl | apply DLe.cp | apply DLeL.cons | apply DLeLL.cons))) (.cons rfl (by first | exact .refl _ | exact .toD rfl | exact .nilD | exact Fit.of_eq rfl | exact .dle rfl (by repeat' (first | exact DLe.refl _ | exact DLe.nil | exact DLeL.nil | exact DLeLL.nil | apply DLe.agg | apply DLe.tup | apply DLe.sl | apply DLe.cp | apply DLeL.cons | apply DLeLL.cons))) .nil)))
                repeat (first | exact .nil | refine .cons rfl (.cells rfl (FitL.rfl _)) ?_ | refine .cons rfl (.cells rfl (by repeat (first | exact .nil | refine .cons (by first | exact .refl _ | exact .toD rfl | exact .nil rfl | exact .nilD | exact Fit.of_eq rfl) ?_))) ?_ | refine .cons rfl .row ?_ | refine .cons rfl .mapI ?_ | refine .cons rfl .nnrow ?_ | refine .cons rfl .nrow ?_ | refine .cons rfl .dead ?_)
            )
          · try simp only [decide_eq_true_eq, decide_eq_false_iff_not, Bool.not_eq_true', Bool.not_eq_false', Bool.not_true, Bool.not_false, Int.not_lt, Int.not_le, Bool.and_eq_true, Bool.or_eq_true, Bool.and_eq_false_iff, Bool.or_eq_false_iff, Bool.false_eq_true, Bool.true_eq_false, not_true_eq_false, not_false_eq_true, decide_true, decide_false, true_and, and_true, false_and, and_false, true_or, or_true, false_or, or_false, Bool.true_and, Bool.false_and, Bool.and_true, Bool.and_false, Bool.true_or, Bool.false_or, Bool.or_true, Bool.or_false, Int.reduceEq, Int.reduceNe, Int.reduceLT, Int.reduceLE, Int.toNat_natCast, toNat_add1] at h7
            all_goals try (first | contradiction | (exfalso; omega))
            all_goals (
              refine runs_exit ?_
              refine seq_exit ?_
              refine seq_exit ?_
              refine inb_exit ?_
              refine seq_normal ?_
              refine runs_seq ?_
              refine runs_keep [1] rfl ?_
              refine runs_region ?_
              refine ops_fl rfl rfl rfl (fl_move rfl rfl ?_)
              refine ops_fl rfl rfl rfl (fl_assign rfl rfl ?_)
              refine ops_nil ?_
              refine seq_normal ?_
              refine runs_ret ?_
              refine fin_ret ?_
              refine fin_o ⟨_, _, rfl, rfl, rfl⟩ [0] (.own 0 1 (strs (paramsL (args.take i) ah))) ([.row 9 1]) rfl rfl rfl ?_ rfl ?_ ?_
              · repeat (first | exact .nil | refine .cons rfl (.cells rfl (FitL.rfl _)) ?_ | refine .cons rfl (.cells rfl (by repeat (first | exact .nil | refine .cons (by first | exact .refl _ | exact .toD rfl | exact .nil rfl | exact .nilD | exact Fit.of_eq rfl) ?_))) ?_ | refine .cons rfl .row ?_ | refine .cons rfl .mapI ?_ | refine .cons rfl .nnrow ?_ | refine .cons rfl .nrow ?_ | refine .cons rfl .dead ?_ | refine .cons rfl (.cells rfl ?_) ?_ | refine .cons (by first | exact .refl _ | exact .toD rfl | exact .nilD) ?_)
              · first | exact .refl _ | exact .toD rfl | exact .nilD
              · refine ⟨?_, rfl⟩; simp only [Lvl.params, if_neg (show ¬ k = 4 by omega)]; rw [List.take_of_length_le (by omega)]
            )
      )

/-- the reference's 'Worth' -/
theorem sameLvl_spec : ∀ (n : Nat) (k : Int) (s : ByteArray) (args : List Lvl) (k2 : Int) (s2 : ByteArray) (args2 : List Lvl), (Lvl.mk k s args).size ≤ n → (Lvl.mk k s args).size ≤ 1099511627776 →
    TriD Tryd.prog gl 22 [(Lvl.mk k s args).d, (Lvl.mk k2 s2 args2).d] (· = .v (.bool (Lvl.same (.mk k s args) (.mk k2 s2 args2)))) := by
  intro n
  induction n with
  | zero => intro k s args k2 s2 args2 h; simp [Lvl.size] at h
  | succ n ih =>
    intro k s args k2 s2 args2 hn hb
    have hsz : sizes args ≤ n := by simp [Lvl.size] at hn; omega
    have hlen := lvls_len args
    have hlen2 := lvls_len args2
    have hlb := lvls_size args
    simp only [Lvl.size] at hb
    refine triD_of_runs Tryd.func22 rfl Tryd.ntmps22 (rs := [.tmp 4]) rfl rfl rfl ?_
    refine runs_seq ?_
    refine runs_region ?_
    refine ops_cons (T := fun _ => False) rfl (op_box ti31 rfl rfl rfl rfl rfl (by simp only [List.length_cons, List.length_nil, Nat.reduceAdd]; rfl) rfl ?_)
    refine ops_cons (T := fun _ => False) rfl (op_box ti31 rfl rfl rfl rfl rfl (by simp only [List.length_cons, List.length_nil, Nat.reduceAdd]; rfl) rfl ?_)
    refine ops_fl rfl rfl rfl (fl_assign rfl rfl ?_)
    refine ops_nil ?_
    refine seq_normal ?_
    refine runs_seq ?_
    refine runs_seq ?_
    refine runs_region ?_
    first
    | refine ops_fl rfl rfl rfl (fl_field_blk ti31 rfl rfl rfl rfl ?_)
    | refine ops_fl rfl rfl rfl (fl_field_cp ti31 rfl rfl rfl rfl rfl ?_)
    first
    | refine ops_fl rfl rfl rfl (fl_load_blk ti3 rfl rfl rfl rfl rfl rfl rfl ?_)
    | refine ops_fl rfl rfl rfl (fl_load_cp ti3 rfl rfl rfl rfl rfl rfl ?_)
    first
    | refine ops_fl rfl rfl rfl (fl_field_blk ti31 rfl rfl rfl rfl ?_)
    | refine ops_fl rfl rfl rfl (fl_field_cp ti31 rfl rfl rfl rfl rfl ?_)
    first
    | refine ops_fl rfl rfl rfl (fl_load_blk ti3 rfl rfl rfl rfl rfl rfl rfl ?_)
    | refine ops_fl rfl rfl rfl (fl_load_cp ti3 rfl rfl rfl rfl rfl rfl ?_)
    refine ops_fl rfl rfl rfl (fl_neq rfl rfl rfl ?_)
    refine ops_fl rfl rfl rfl (fl_move rfl rfl ?_)
    apply ops_or (yt := 17) (d := 12) 5 rfl rfl rfl (.none rfl) rfl rfl
    case h1 =>
      intro hb10 hK
      have hc := hb10; try simp only [decide_eq_true_eq, decide_eq_false_iff_not, Bool.not_eq_true', Bool.not_eq_false', Bool.not_true, Bool.not_false, Int.not_lt, Int.not_le, Bool.and_eq_true, Bool.or_eq_true, Bool.and_eq_false_iff, Bool.or_eq_false_iff, Bool.false_eq_true, Bool.true_eq_false, not_true_eq_false, not_false_eq_true, decide_true, decide_false, true_and, and_true, false_and, and_false, true_or, or_true, false_or, or_false, Bool.true_and, Bool.false_and, Bool.and_true, Bool.and_false, Bool.true_or, Bool.false_or, Bool.or_true, Bool.or_false, Int.reduceEq, Int.reduceNe, Int.reduceLT, Int.reduceLE, Int.toNat_natCast, toNat_add1] at hc
      all_goals try (first | contradiction | (exfalso; omega))
      all_goals (
        refine ops_gyes rfl rfl rfl hb10 ?_
        first
        | refine ops_fl rfl rfl rfl (fl_field_blk ti31 rfl rfl rfl rfl ?_)
        | refine ops_fl rfl rfl rfl (fl_field_cp ti31 rfl rfl rfl rfl rfl ?_)
        refine ops_gyes rfl rfl rfl hb10 ?_
        first
        | refine ops_fl rfl rfl rfl (fl_load_blk ti9 rfl rfl rfl rfl rfl rfl rfl ?_)
        | refine ops_fl rfl rfl rfl (fl_load_cp ti9 rfl rfl rfl rfl rfl rfl ?_)
        refine ops_gyes rfl rfl rfl hb10 ?_
        first
        | refine ops_fl rfl rfl rfl (fl_field_blk ti31 rfl rfl rfl rfl ?_)
        | refine ops_fl rfl rfl rfl (fl_field_cp ti31 rfl rfl rfl rfl rfl ?_)
        refine ops_gyes rfl rfl rfl hb10 ?_
        first
        | refine ops_fl rfl rfl rfl (fl_load_blk ti9 rfl rfl rfl rfl rfl rfl rfl ?_)
        | refine ops_fl rfl rfl rfl (fl_load_cp ti9 rfl rfl rfl rfl rfl rfl ?_)
        refine ops_gyes rfl rfl rfl hb10 ?_
        refine ops_fl rfl rfl rfl (fl_sneq rfl rfl rfl ?_)
        exact hK [_, _, _, _, _] rfl rfl)
    case h2 =>
      intro hb10 hK
      refine ops_gno rfl rfl rfl hb10 rfl rfl ?_
      refine ops_gno rfl rfl rfl hb10 rfl rfl ?_
      refine ops_gno rfl rfl rfl hb10 rfl rfl ?_
      refine ops_gno rfl rfl rfl hb10 rfl rfl ?_
      refine ops_gno rfl rfl rfl hb10 rfl rfl ?_
      exact hK [_, _, _, _, _] rfl
    refine ops_fl rfl rfl rfl (fl_move rfl rfl ?_)
    apply ops_or (yt := 26) (d := 19) 7 rfl rfl rfl (.none rfl) rfl rfl
    case h1 =>
      intro hb24 hK
      have hc := hb24; try simp only [decide_eq_true_eq, decide_eq_false_iff_not, Bool.not_eq_true', Bool.not_eq_false', Bool.not_true, Bool.not_false, Int.not_lt, Int.not_le, Bool.and_eq_true, Bool.or_eq_true, Bool.and_eq_false_iff, Bool.or_eq_false_iff, Bool.false_eq_true, Bool.true_eq_false, not_true_eq_false, not_false_eq_true, decide_true, decide_false, true_and, and_true, false_and, and_false, true_or, or_true, false_or, or_false, Bool.true_and, Bool.false_and, Bool.and_true, Bool.and_false, Bool.true_or, Bool.false_or, Bool.or_true, Bool.or_false, Int.reduceEq, Int.reduceNe, Int.reduceLT, Int.reduceLE, Int.toNat_natCast, toNat_add1] at hc
      all_goals try (first | contradiction | (exfalso; omega))
      all_goals (
        refine ops_gyes rfl rfl rfl hb24 ?_
        first
        | refine ops_fl rfl rfl rfl (fl_field_blk ti31 rfl rfl rfl rfl ?_)
        | refine ops_fl rfl rfl rfl (fl_field_cp ti31 rfl rfl rfl rfl rfl ?_)
        refine ops_gyes rfl rfl rfl hb24 ?_
        first
        | refine ops_fl rfl rfl rfl (fl_load_blk ti29 rfl rfl rfl rfl rfl rfl rfl ?_)
        | refine ops_fl rfl rfl rfl (fl_load_cp ti29 rfl rfl rfl rfl rfl rfl ?_)
        refine ops_gyes rfl rfl rfl hb24 ?_
        first
        | refine ops_fl rfl rfl rfl (fl_len us29 rfl rfl ?_)
        | refine ops_fl rfl rfl rfl (fl_len_own us29 rfl rfl ?_)
        | refine ops_fl rfl rfl rfl (fl_len_nil us29 rfl rfl ?_)
        refine ops_gyes rfl rfl rfl hb24 ?_
        first
        | refine ops_fl rfl rfl rfl (fl_field_blk ti31 rfl rfl rfl rfl ?_)
        | refine ops_fl rfl rfl rfl (fl_field_cp ti31 rfl rfl rfl rfl rfl ?_)
        refine ops_gyes rfl rfl rfl hb24 ?_
        first
        | refine ops_fl rfl rfl rfl (fl_load_blk ti29 rfl rfl rfl rfl rfl rfl rfl ?_)
        | refine ops_fl rfl rfl rfl (fl_load_cp ti29 rfl rfl rfl rfl rfl rfl ?_)
        refine ops_gyes rfl rfl rfl hb24 ?_
        first
        | refine ops_fl rfl rfl rfl (fl_len us29 rfl rfl ?_)
        | refine ops_fl rfl rfl rfl (fl_len_own us29 rfl rfl ?_)
        | refine ops_fl rfl rfl rfl (fl_len_nil us29 rfl rfl ?_)
        refine ops_gyes rfl rfl rfl hb24 ?_
        refine ops_fl rfl rfl rfl (fl_neq rfl rfl rfl ?_)
        exact hK [_, _, _, _, _, _, _] rfl rfl)
    case h2 =>
      intro hb24 hK
      refine ops_gno rfl rfl rfl hb24 rfl rfl ?_
      refine ops_gno rfl rfl rfl hb24 rfl rfl ?_
      refine ops_gno rfl rfl rfl hb24 rfl rfl ?_
      refine ops_gno rfl rfl rfl hb24 rfl rfl ?_
      refine ops_gno rfl rfl rfl hb24 rfl rfl ?_
      refine ops_gno rfl rfl rfl hb24 rfl rfl ?_
      refine ops_gno rfl rfl rfl hb24 rfl rfl ?_
      exact hK [_, _, _, _, _, _, _] rfl
    refine ops_nil ?_
    refine seq_normal ?_
    refine runs_cond rfl (fun h1 => ?_) (fun h1 => ?_)
    · try simp only [decide_eq_true_eq, decide_eq_false_iff_not, Bool.not_eq_true', Bool.not_eq_false', Bool.not_true, Bool.not_false, Int.not_lt, Int.not_le, Bool.and_eq_true, Bool.or_eq_true, Bool.and_eq_false_iff, Bool.or_eq_false_iff, Bool.false_eq_true, Bool.true_eq_false, not_true_eq_false, not_false_eq_true, decide_true, decide_false, true_and, and_true, false_and, and_false, true_or, or_true, false_or, or_false, Bool.true_and, Bool.false_and, Bool.and_true, Bool.and_false, Bool.true_or, Bool.false_or, Bool.or_true, Bool.or_false, Int.reduceEq, Int.reduceNe, Int.reduceLT, Int.reduceLE, Int.toNat_natCast, toNat_add1] at h1
      all_goals try (first | contradiction | (exfalso; omega))
      all_goals (
        refine runs_seq ?_
        refine runs_keep [] rfl ?_
        refine runs_region ?_
        refine ops_fl rfl rfl rfl (fl_assign rfl rfl ?_)
        refine ops_nil ?_
        refine seq_normal ?_
        refine runs_ret ?_
        refine seq_ret ?_
        refine fin_ret ?_
        refine fin_d1 rfl rfl ?_
        rw [Lvl.same_eq]
        rcases h1 with (h | h) | h
        · simp [h]
        · simp [h]
        · have : sameL args args2 = false := by
            cases hs : sameL args args2 with
            | false => rfl
            | true => exact absurd (by have := sameL_len hs; omega) h
          simp [this]
      )
    · try simp only [decide_eq_true_eq, decide_eq_false_iff_not, Bool.not_eq_true', Bool.not_eq_false', Bool.not_true, Bool.not_false, Int.not_lt, Int.not_le, Bool.and_eq_true, Bool.or_eq_true, Bool.and_eq_false_iff, Bool.or_eq_false_iff, Bool.false_eq_true, Bool.true_eq_false, not_true_eq_false, not_false_eq_true, decide_true, decide_false, true_and, and_true, false_and, and_false, true_or, or_true, false_or, or_false, Bool.true_and, Bool.false_and, Bool.and_true, Bool.and_false, Bool.true_or, Bool.false_or, Bool.or_true, Bool.or_false, Int.reduceEq, Int.reduceNe, Int.reduceLT, Int.reduceLE, Int.toNat_natCast, toNat_add1] at h1
      all_goals try (first | contradiction | (exfalso; omega))
      all_goals (
        refine runs_skip ?_
        refine seq_normal ?_
        refine runs_seq ?_
        refine runs_seq ?_
        refine runs_keep [3, 2] rfl ?_
        refine runs_region ?_
        refine ops_fl rfl rfl rfl (fl_assign rfl rfl ?_)
        refine ops_nil ?_
        refine seq_normal ?_
        refine runs_block ?_
        apply runs_loop_c (ι := Nat) (fun i => [(5, int i)]) [3, 2] (fun i => i ≤ args.length ∧ sameL (args.take i) (args2.take i) = true) (fun i => args.length - i) (0)
        case hk => exact rfl
        case hI =>
          exact ⟨Nat.zero_le _, by simp [sameL]⟩
        case hm =>
          refine meets_of rfl rfl rfl ?_ (.cons rfl (by first | exact .refl _ | exact .toD rfl | exact .nilD | exact Fit.of_eq rfl | exact .dle rfl (by repeat' (first | exact DLe.refl _ | exact DLe.nil | exact DLeL.nil | exact DLeLL.nil | apply DLe.agg | apply DLe.tup | apply DLe.sl | apply DLe.cp | apply DLeL.cons | apply DLeLL.cons))) (.cons rfl (by first | exact .refl _ | exact .toD rfl | exact .nilD | exact Fit.of_eq rfl | exact .dle rfl (by repeat' (first | exact DLe.refl _ | exact DLe.nil | exact DLeL.nil | exact DLeLL.nil | apply DLe.agg | apply DLe.tup | apply DLe.sl | apply DLe.cp | apply DLeL.cons | apply DLeLL.cons))) (.cons rfl (by first | exact .refl _ | exact .toD rfl | exact .nilD | exact Fit.of_eq rfl | exact .dle rfl (by repeat' (first | exact DLe.refl _ | exact DLe.nil | exact DLeL.nil | exact DLeLL.nil | apply DLe.agg | apply DLe.tup | apply DLe.sl | apply DLe.cp | apply DLeL.cons | apply DLeLL.cons))) .nil)))
          repeat (first | exact .nil | refine .cons rfl (.cells rfl (FitL.rfl _)) ?_ | refine .cons rfl (.cells rfl (by repeat (first | exact .nil | refine .cons (by first | exact .refl _ | exact .toD rfl | exact .nil rfl | exact .nilD | exact Fit.of_eq rfl) ?_))) ?_ | refine .cons rfl .row ?_ | refine .cons rfl .mapI ?_ | refine .cons rfl .nnrow ?_ | refine .cons rfl .nrow ?_ | refine .cons rfl .dead ?_)
        case h =>
          rintro i hinv
          try dsimp only at hinv
          refine runs_keep [5, 3, 2] rfl ?_
          refine runs_seq ?_
          refine runs_seq ?_
          refine runs_region ?_
          refine ops_fl rfl rfl rfl (fl_move rfl rfl ?_)
          first
          | refine ops_fl rfl rfl rfl (fl_field_blk ti31 rfl rfl rfl rfl ?_)
          | refine ops_fl rfl rfl rfl (fl_field_cp ti31 rfl rfl rfl rfl rfl ?_)
          first
          | refine ops_fl rfl rfl rfl (fl_load_blk ti29 rfl rfl rfl rfl rfl rfl rfl ?_)
          | refine ops_fl rfl rfl rfl (fl_load_cp ti29 rfl rfl rfl rfl rfl rfl ?_)
          first
          | refine ops_fl rfl rfl rfl (fl_len us29 rfl rfl ?_)
          | refine ops_fl rfl rfl rfl (fl_len_own us29 rfl rfl ?_)
          | refine ops_fl rfl rfl rfl (fl_len_nil us29 rfl rfl ?_)
          refine ops_fl rfl rfl rfl (fl_lss rfl rfl rfl ?_)
          refine ops_nil ?_
          refine seq_normal ?_
          refine runs_cond rfl (fun h4 => ?_) (fun h4 => ?_)
          · try simp only [decide_eq_true_eq, decide_eq_false_iff_not, Bool.not_eq_true', Bool.not_eq_false', Bool.not_true, Bool.not_false, Int.not_lt, Int.not_le, Bool.and_eq_true, Bool.or_eq_true, Bool.and_eq_false_iff, Bool.or_eq_false_iff, Bool.false_eq_true, Bool.true_eq_false, not_true_eq_false, not_false_eq_true, decide_true, decide_false, true_and, and_true, false_and, and_false, true_or, or_true, false_or, or_false, Bool.true_and, Bool.false_and, Bool.and_true, Bool.and_false, Bool.true_or, Bool.false_or, Bool.or_true, Bool.or_false, Int.reduceEq, Int.reduceNe, Int.reduceLT, Int.reduceLE, Int.toNat_natCast, toNat_add1] at h4
            all_goals try (first | contradiction | (exfalso; omega))
            all_goals (
              refine runs_skip ?_
              refine seq_normal ?_
              refine runs_seq ?_
              refine runs_block ?_
              refine runs_seq ?_
              refine runs_keep [5, 3, 2] rfl ?_
              obtain ⟨k', s', a', hget⟩ := lvl_get (show i < args.length by omega)
              obtain ⟨k2', s2', a2', hget2⟩ := lvl_get (show i < args2.length by omega)
              have hsz' := size_get hget
              refine any_start mixed rfl rfl ?_
              first
              | refine any_fl 0 rfl rfl rfl rfl (by kernel_rfl) rfl (fl_field_blk ti31 rfl rfl rfl rfl ⟨_, rfl, ?_⟩)
              | refine any_fl 0 rfl rfl rfl rfl (by kernel_rfl) rfl (fl_field_cp ti31 rfl rfl rfl rfl rfl ⟨_, rfl, ?_⟩)
              first
              | refine any_fl 1 rfl rfl rfl rfl (by kernel_rfl) rfl (fl_load_blk ti29 rfl rfl rfl rfl rfl rfl rfl ⟨_, rfl, ?_⟩)
              | refine any_fl 1 rfl rfl rfl rfl (by kernel_rfl) rfl (fl_load_cp ti29 rfl rfl rfl rfl rfl rfl ⟨_, rfl, ?_⟩)
              refine any_fl 2 rfl rfl rfl rfl (by kernel_rfl) rfl (fl_move rfl rfl ⟨_, rfl, ?_⟩)
              first
              | refine any_fl 3 rfl rfl rfl rfl (by kernel_rfl) rfl (fl_index us29 te29 rfl rfl rfl rfl rfl (by omega) (lvl_at hget) ⟨_, rfl, ?_⟩)
              | refine any_fl 3 rfl rfl rfl rfl (by kernel_rfl) rfl (fl_index_own us29 te29 rfl rfl rfl rfl rfl (by omega) (lvl_at hget) ⟨_, rfl, ?_⟩)
              first
              | refine any_fl 4 rfl rfl rfl rfl (by kernel_rfl) rfl (fl_load_blk ti31 rfl rfl rfl rfl rfl rfl rfl ⟨_, rfl, ?_⟩)
              | refine any_fl 4 rfl rfl rfl rfl (by kernel_rfl) rfl (fl_load_cp ti31 rfl rfl rfl rfl rfl rfl ⟨_, rfl, ?_⟩)
              | refine any_fl 4 rfl rfl rfl rfl (by kernel_rfl) rfl (fl_load_all ti31 rfl rfl rfl rfl (by first | rfl | exact Lvl.cells_len _) ⟨_, rfl, ?_⟩)
              first
              | refine any_fl 5 rfl rfl rfl rfl (by kernel_rfl) rfl (fl_field_blk ti31 rfl rfl rfl rfl ⟨_, rfl, ?_⟩)
              | refine any_fl 5 rfl rfl rfl rfl (by kernel_rfl) rfl (fl_field_cp ti31 rfl rfl rfl rfl rfl ⟨_, rfl, ?_⟩)
              first
              | refine any_fl 6 rfl rfl rfl rfl (by kernel_rfl) rfl (fl_load_blk ti29 rfl rfl rfl rfl rfl rfl rfl ⟨_, rfl, ?_⟩)
              | refine any_fl 6 rfl rfl rfl rfl (by kernel_rfl) rfl (fl_load_cp ti29 rfl rfl rfl rfl rfl rfl ⟨_, rfl, ?_⟩)
              refine any_fl 7 rfl rfl rfl rfl (by kernel_rfl) rfl (fl_move rfl rfl ⟨_, rfl, ?_⟩)
              first
              | refine any_fl 8 rfl rfl rfl rfl (by kernel_rfl) rfl (fl_index us29 te29 rfl rfl rfl rfl rfl (by omega) (lvl_at hget2) ⟨_, rfl, ?_⟩)
              | refine any_fl 8 rfl rfl rfl rfl (by kernel_rfl) rfl (fl_index_own us29 te29 rfl rfl rfl rfl rfl (by omega) (lvl_at hget2) ⟨_, rfl, ?_⟩)
              first
              | refine any_fl 9 rfl rfl rfl rfl (by kernel_rfl) rfl (fl_load_blk ti31 rfl rfl rfl rfl rfl rfl rfl ⟨_, rfl, ?_⟩)
              | refine any_fl 9 rfl rfl rfl rfl (by kernel_rfl) rfl (fl_load_cp ti31 rfl rfl rfl rfl rfl rfl ⟨_, rfl, ?_⟩)
              | refine any_fl 9 rfl rfl rfl rfl (by kernel_rfl) rfl (fl_load_all ti31 rfl rfl rfl rfl (by first | rfl | exact Lvl.cells_len _) ⟨_, rfl, ?_⟩)
              refine any_st (T := fun _ => False) 10 rfl rfl (by kernel_rfl) rfl rfl (by intro p hp; simp only [List.mem_cons, List.not_mem_nil, or_false] at hp; all_goals (first | exact hp.elim | (subst hp; exact ⟨by simp, _, _, rfl⟩) | (rcases hp with rfl | rfl <;> exact ⟨by simp, _, _, rfl⟩) | (rcases hp with rfl | rfl | rfl <;> exact ⟨by simp, _, _, rfl⟩) | (rcases hp with rfl | rfl | rfl | rfl <;> exact ⟨by simp, _, _, rfl⟩) | (rcases hp with rfl | rfl | rfl | rfl | rfl <;> exact ⟨by simp, _, _, rfl⟩))) (op_call ca22 rfl rfl rfl rfl (ih k' s' a' k2' s2' a2' (by omega) (by omega)) (.cons (by first | exact .refl _ | exact .toD rfl | exact .nilD | exact .dle rfl (by repeat' (first | exact DLe.refl _ | exact DLe.nil | exact DLeL.nil | exact DLeLL.nil | apply DLe.agg | apply DLe.tup | apply DLe.sl | apply DLe.cp | apply DLeL.cons | apply DLeLL.cons))) (.cons (by first | exact .refl _ | exact .toD rfl | exact .nilD | exact .dle rfl (by repeat' (first | exact DLe.refl _ | exact DLe.nil | exact DLeL.nil | exact DLeLL.nil | apply DLe.agg | apply DLe.tup | apply DLe.sl | apply DLe.cp | apply DLeL.cons | apply DLeLL.cons))) .nil)) (fun d hd => ?_))
              obtain rfl := hd
              refine any_fl 11 rfl rfl rfl rfl (by kernel_rfl) rfl (fl_assign rfl rfl ⟨_, rfl, ?_⟩)
              refine any_end (by kernel_rfl) ?_
              refine seq_normal ?_
              refine runs_seq ?_
              refine runs_keep [6, 5, 3, 2] rfl ?_
              refine runs_region ?_
              refine ops_fl rfl rfl rfl (fl_move rfl rfl ?_)
              refine ops_fl rfl rfl rfl (fl_not rfl rfl ?_)
              refine ops_nil ?_
              refine seq_normal ?_
              refine runs_cond rfl (fun h7 => ?_) (fun h7 => ?_)
              · try simp only [decide_eq_true_eq, decide_eq_false_iff_not, Bool.not_eq_true', Bool.not_eq_false', Bool.not_true, Bool.not_false, Int.not_lt, Int.not_le, Bool.and_eq_true, Bool.or_eq_true, Bool.and_eq_false_iff, Bool.or_eq_false_iff, Bool.false_eq_true, Bool.true_eq_false, not_true_eq_false, not_false_eq_true, decide_true, decide_false, true_and, and_true, false_and, and_false, true_or, or_true, false_or, or_false, Bool.true_and, Bool.false_and, Bool.and_true, Bool.and_false, Bool.true_or, Bool.false_or, Bool.or_true, Bool.or_false, Int.reduceEq, Int.reduceNe, Int.reduceLT, Int.reduceLE, Int.toNat_natCast, toNat_add1] at h7
                all_goals try (first | contradiction | (exfalso; omega))
                all_goals (
                  refine runs_seq ?_
                  refine runs_keep [] rfl ?_
                  refine runs_region ?_
                  refine ops_fl rfl rfl rfl (fl_assign rfl rfl ?_)
                  refine ops_nil ?_
                  refine seq_normal ?_
                  refine runs_ret ?_
                  refine inb_ret ?_
                  refine seq_ret ?_
                  refine seq_ret ?_
                  refine inb_ret ?_
                  refine seq_ret ?_
                  refine fin_ret ?_
                  refine fin_d1 rfl rfl ?_
                  rw [Lvl.same_eq]; rw [sameL_false hget hget2 h7]; simp
                )
              · try simp only [decide_eq_true_eq, decide_eq_false_iff_not, Bool.not_eq_true', Bool.not_eq_false', Bool.not_true, Bool.not_false, Int.not_lt, Int.not_le, Bool.and_eq_true, Bool.or_eq_true, Bool.and_eq_false_iff, Bool.or_eq_false_iff, Bool.false_eq_true, Bool.true_eq_false, not_true_eq_false, not_false_eq_true, decide_true, decide_false, true_and, and_true, false_and, and_false, true_or, or_true, false_or, or_false, Bool.true_and, Bool.false_and, Bool.and_true, Bool.and_false, Bool.true_or, Bool.false_or, Bool.or_true, Bool.or_false, Int.reduceEq, Int.reduceNe, Int.reduceLT, Int.reduceLE, Int.toNat_natCast, toNat_add1] at h7
                all_goals try (first | contradiction | (exfalso; omega))
                all_goals (
                  refine runs_skip ?_
                  refine inb_normal ?_
                  refine seq_normal ?_
                  refine runs_region ?_
                  refine ops_fl rfl rfl rfl (fl_move rfl rfl ?_)
                  refine ops_fl rfl rfl rfl (fl_add rfl rfl rfl (by omega) ?_)
                  refine ops_fl rfl rfl rfl (fl_assign rfl rfl ?_)
                  refine ops_nil ?_
                  refine seq_back ?_
                  refine back_i (i + 1) rfl ?_ ?_
                  · exact ⟨⟨by omega, by rw [sameL_take hget hget2]; simp [hinv.2, h7]⟩, by omega⟩
                  · refine meets_of rfl rfl rfl ?_ (.cons rfl (by first | exact .refl _ | exact .toD rfl | exact .nilD | exact Fit.of_eq rfl | exact .dle rfl (by repeat' (first | exact DLe.refl _ | exact DLe.nil | exact DLeL.nil | exact DLeLL.nil | apply DLe.agg | apply DLe.tup | apply DLe.sl | apply DLe.cp | apply DLeL.cons | apply DLeLL.cons))) (.cons rfl (by first | exact .refl _ | exact .toD rfl | exact .nilD | exact Fit.of_eq rfl | exact .dle rfl (by repeat' (first | exact DLe.refl _ | exact DLe.nil | exact DLeL.nil | exact DLeLL.nil | apply DLe.agg | apply DLe.tup | apply DLe.sl | apply DLe.cp | apply DLeL.cons | apply DLeLL.cons))) (.cons rfl (by first | exact .refl _ | exact .toD rfl | exact .nilD | exact Fit.of_eq rfl | exact .dle rfl (by repeat' (first | exact DLe.refl _ | exact DLe.nil | exact DLeL.nil | exact DLeLL.nil | apply DLe.agg | apply DLe.tup | apply DLe.sl | apply DLe.cp | apply DLeL.cons | apply DLeLL.cons))) .nil)))
                    repeat (first | exact .nil | refine .cons rfl (.cells rfl (FitL.rfl _)) ?_ | refine .cons rfl (.cells rfl (by repeat (first | exact .nil | refine .cons (by first | exact .refl _ | exact .toD rfl | exact .nil rfl | exact .nilD | exact Fit.of_eq rfl) ?_))) ?_ | refine .cons rfl .row ?_ | refine .cons rfl .mapI ?_ | refine .cons rfl .nnrow ?_ | refine .cons rfl .nrow ?_ | refine .cons rfl .dead ?_)
                )
            )
          · try simp only [decide_eq_true_eq, decide_eq_false_iff_not, Bool.not_eq_true', Bool.not_eq_false', Bool.not_true, Bool.not_false, Int.not_lt, Int.not_le, Bool.and_eq_true, Bool.or_eq_true, Bool.and_eq_false_iff, Bool.or_eq_false_iff, Bool.false_eq_true, Bool.true_eq_false, not_true_eq_false, not_false_eq_true, decide_true, decide_false, true_and, and_true, false_and, and_false, true_or, or_true, false_or, or_false, Bool.true_and, Bool.false_and, Bool.and_true, Bool.and_false, Bool.true_or, Bool.false_or, Bool.or_true, Bool.or_false, Int.reduceEq, Int.reduceNe, Int.reduceLT, Int.reduceLE, Int.toNat_natCast, toNat_add1] at h4
            all_goals try (first | contradiction | (exfalso; omega))
            all_goals (
              refine runs_exit ?_
              refine seq_exit ?_
              refine seq_exit ?_
              refine inb_exit ?_
              refine seq_normal ?_
              refine runs_seq ?_
              refine runs_keep [] rfl ?_
              refine runs_region ?_
              refine ops_fl rfl rfl rfl (fl_assign rfl rfl ?_)
              refine ops_nil ?_
              refine seq_normal ?_
              refine runs_ret ?_
              refine fin_ret ?_
              refine fin_d1 rfl rfl ?_
              rw [Lvl.same_eq]; have h9 := hinv.2; rw [List.take_of_length_le (by omega), List.take_of_length_le (by omega)] at h9; simp [h9, h1]
            )
      )
end Go.Proofs.YtafhnnbbfgoacaaDoor
