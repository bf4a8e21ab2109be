/-
  What is proved here: contracts of strings.Builder's methods.
-/
import Derived.Test.YtafhnnbbfgoacaaDoorYFacts
set_option linter.unusedSimpArgs false
set_option linter.unusedVariables false
namespace Go.Proofs.YtafhnnbbfgoacaaDoor
open Go Go.Vd Go.RowKit
attribute [local irreducible] Runs OpsR OpR FloatR AnyR
variable {gl : Nat → List D}

/-- a builder: used or not, and what it holds -/
def bldA (used : Bool) : SV := cond used (.blk 0 0) (.d (.v (.pointer none)))
def bldO (used : Bool) (s : ByteArray) : List Ob := [.cells [bldA used, .own 1 1 (bytesD s)] 63, .row 5 1]

theorem noesc (y : Value) (w : World) : (callFunc 67 #[y]).run Tryd.prog w = .ok (.value y) w := by
  rw [run_callFunc_extern Tryd.func67 (by kernel_rfl) (by kernel_rfl) (by kernel_rfl) (e := Extern.AbiNoEscape.same) (by kernel_rfl)]
  rw [Lib.run_noEscape]
  rfl

theorem check_spec (used : Bool) (s : ByteArray) :
    Tri Tryd.prog gl 57 (bldO used s) [.blk 0 0] fun out ob' => out = .ret (.d (.tup [])) ∧ ob' = bldO true s := by
  cases used with
  | false =>
    unfold bldO bldA
    dsimp only [cond_true, cond_false]
    refine triS_of_runs Tryd.func57 rfl Tryd.ntmps57 (rs := []) rfl rfl rfl 2 rfl ?_
    refine runs_seq ?_
    refine runs_region ?_
    refine ops_fl rfl rfl rfl (fl_move rfl rfl ?_)
    first
    | refine ops_fl rfl rfl rfl (fl_nil_blk rfl rfl ?_)
    | refine ops_fl rfl rfl rfl (fl_nil_cp rfl rfl ?_)
    first
    | refine ops_fl rfl rfl rfl (fl_field_blk ti63 rfl rfl rfl rfl ?_)
    | refine ops_fl rfl rfl rfl (fl_field_cp ti63 rfl rfl rfl rfl rfl ?_)
    first
    | refine ops_fl rfl rfl rfl (fl_load_blk ti60 rfl rfl rfl rfl rfl rfl rfl ?_)
    | refine ops_fl rfl rfl rfl (fl_load_cp ti60 rfl rfl rfl rfl rfl rfl ?_)
    first
    | refine ops_fl rfl rfl rfl (fl_peql_nil up60 rfl rfl ?_)
    | refine ops_fl rfl rfl rfl (fl_peql_blk up60 rfl rfl ?_)
    | refine ops_fl rfl rfl rfl (fl_peql_cp up60 rfl rfl ?_)
    refine ops_nil ?_
    refine seq_normal ?_
    refine runs_cond rfl (fun h0 => ?_) (fun h0 => ?_)
    · try simp only [decide_eq_true_eq, decide_eq_false_iff_not, Bool.not_eq_true', Bool.not_eq_false', Bool.not_true, Bool.not_false, Int.not_lt, Int.not_le, Bool.and_eq_true, Bool.or_eq_true, Bool.and_eq_false_iff, Bool.or_eq_false_iff, Bool.false_eq_true, Bool.true_eq_false, not_true_eq_false, not_false_eq_true, decide_true, decide_false, true_and, and_true, false_and, and_false, true_or, or_true, false_or, or_false, Bool.true_and, Bool.false_and, Bool.and_true, Bool.and_false, Bool.true_or, Bool.false_or, Bool.or_true, Bool.or_false, Int.reduceEq, Int.reduceNe, Int.reduceLT, Int.reduceLE, Int.toNat_natCast, toNat_add1] at h0
      all_goals try (first | contradiction | (exfalso; omega))
      all_goals (
        refine runs_keep [0] rfl ?_
        refine runs_region ?_
        refine ops_fl rfl rfl rfl (fl_move rfl rfl ?_)
        refine ops_fl rfl rfl rfl (fl_move rfl rfl ?_)
        refine ops_cons (T := fun _ => False) rfl (op_to_unsafe up60 uu98 ti63 rfl rfl rfl rfl rfl rfl rfl ?_)
        refine ops_cons (T := fun _ => False) rfl (op_same noesc rfl rfl rfl rfl ?_)
        refine ops_cons (T := fun _ => False) rfl (op_from_unsafe uu98 up60 ti63 rfl (by kernel_rfl) rfl rfl rfl rfl rfl rfl ?_)
        first
        | refine ops_fl rfl rfl rfl (fl_nil_blk rfl rfl ?_)
        | refine ops_fl rfl rfl rfl (fl_nil_cp rfl rfl ?_)
        first
        | refine ops_fl rfl rfl rfl (fl_field_blk ti63 rfl rfl rfl rfl ?_)
        | refine ops_fl rfl rfl rfl (fl_field_cp ti63 rfl rfl rfl rfl rfl ?_)
        refine ops_cons rfl (op_store ti60 rfl rfl rfl rfl rfl rfl rfl rfl rfl rfl rfl ?_)
        refine ops_nil ?_
        refine fin_normal ?_
        refine fin_od (l := []) rfl rfl ([0, 1]) ([.cells [.blk 0 0, .own 1 1 (bytesD s)] 63, .row 5 1]) rfl rfl rfl ?_ ?_
        · repeat (first | exact .nil | refine .cons rfl (.cells rfl (FitL.rfl _)) ?_ | refine .cons rfl .row ?_ | refine .cons rfl .mapI ?_ | refine .cons rfl .nnrow ?_ | refine .cons rfl .nrow ?_ | refine .cons rfl .dead ?_ | refine .cons rfl (.cells rfl ?_) ?_ | refine .cons (by first | exact .refl _ | exact .toD rfl | exact .nilD) ?_)
        · exact ⟨rfl, rfl⟩
      )
    · try simp only [decide_eq_true_eq, decide_eq_false_iff_not, Bool.not_eq_true', Bool.not_eq_false', Bool.not_true, Bool.not_false, Int.not_lt, Int.not_le, Bool.and_eq_true, Bool.or_eq_true, Bool.and_eq_false_iff, Bool.or_eq_false_iff, Bool.false_eq_true, Bool.true_eq_false, not_true_eq_false, not_false_eq_true, decide_true, decide_false, true_and, and_true, false_and, and_false, true_or, or_true, false_or, or_false, Bool.true_and, Bool.false_and, Bool.and_true, Bool.and_false, Bool.true_or, Bool.false_or, Bool.or_true, Bool.or_false, Int.reduceEq, Int.reduceNe, Int.reduceLT, Int.reduceLE, Int.toNat_natCast, toNat_add1] at h0
      all_goals (first | contradiction | (exfalso; omega) | (exfalso; simp_all))
  | true =>
    unfold bldO bldA
    dsimp only [cond_true, cond_false]
    refine triS_of_runs Tryd.func57 rfl Tryd.ntmps57 (rs := []) rfl rfl rfl 2 rfl ?_
    refine runs_seq ?_
    refine runs_region ?_
    refine ops_fl rfl rfl rfl (fl_move rfl rfl ?_)
    first
    | refine ops_fl rfl rfl rfl (fl_nil_blk rfl rfl ?_)
    | refine ops_fl rfl rfl rfl (fl_nil_cp rfl rfl ?_)
    first
    | refine ops_fl rfl rfl rfl (fl_field_blk ti63 rfl rfl rfl rfl ?_)
    | refine ops_fl rfl rfl rfl (fl_field_cp ti63 rfl rfl rfl rfl rfl ?_)
    first
    | refine ops_fl rfl rfl rfl (fl_load_blk ti60 rfl rfl rfl rfl rfl rfl rfl ?_)
    | refine ops_fl rfl rfl rfl (fl_load_cp ti60 rfl rfl rfl rfl rfl rfl ?_)
    first
    | refine ops_fl rfl rfl rfl (fl_peql_nil up60 rfl rfl ?_)
    | refine ops_fl rfl rfl rfl (fl_peql_blk up60 rfl rfl ?_)
    | refine ops_fl rfl rfl rfl (fl_peql_cp up60 rfl rfl ?_)
    refine ops_nil ?_
    refine seq_normal ?_
    refine runs_cond rfl (fun h0 => ?_) (fun h0 => ?_)
    · try simp only [decide_eq_true_eq, decide_eq_false_iff_not, Bool.not_eq_true', Bool.not_eq_false', Bool.not_true, Bool.not_false, Int.not_lt, Int.not_le, Bool.and_eq_true, Bool.or_eq_true, Bool.and_eq_false_iff, Bool.or_eq_false_iff, Bool.false_eq_true, Bool.true_eq_false, not_true_eq_false, not_false_eq_true, decide_true, decide_false, true_and, and_true, false_and, and_false, true_or, or_true, false_or, or_false, Bool.true_and, Bool.false_and, Bool.and_true, Bool.and_false, Bool.true_or, Bool.false_or, Bool.or_true, Bool.or_false, Int.reduceEq, Int.reduceNe, Int.reduceLT, Int.reduceLE, Int.toNat_natCast, toNat_add1] at h0
      all_goals (first | contradiction | (exfalso; omega) | (exfalso; simp_all))
    · try simp only [decide_eq_true_eq, decide_eq_false_iff_not, Bool.not_eq_true', Bool.not_eq_false', Bool.not_true, Bool.not_false, Int.not_lt, Int.not_le, Bool.and_eq_true, Bool.or_eq_true, Bool.and_eq_false_iff, Bool.or_eq_false_iff, Bool.false_eq_true, Bool.true_eq_false, not_true_eq_false, not_false_eq_true, decide_true, decide_false, true_and, and_true, false_and, and_false, true_or, or_true, false_or, or_false, Bool.true_and, Bool.false_and, Bool.and_true, Bool.and_false, Bool.true_or, Bool.false_or, Bool.or_true, Bool.or_false, Int.reduceEq, Int.reduceNe, Int.reduceLT, Int.reduceLE, Int.toNat_natCast, toNat_add1] at h0
      all_goals try (first | contradiction | (exfalso; omega))
      all_goals (
        refine runs_seq ?_
        refine runs_keep [0] rfl ?_
        refine runs_region ?_
        refine ops_fl rfl rfl rfl (fl_move rfl rfl ?_)
        first
        | refine ops_fl rfl rfl rfl (fl_nil_blk rfl rfl ?_)
        | refine ops_fl rfl rfl rfl (fl_nil_cp rfl rfl ?_)
        first
        | refine ops_fl rfl rfl rfl (fl_field_blk ti63 rfl rfl rfl rfl ?_)
        | refine ops_fl rfl rfl rfl (fl_field_cp ti63 rfl rfl rfl rfl rfl ?_)
        first
        | refine ops_fl rfl rfl rfl (fl_load_blk ti60 rfl rfl rfl rfl rfl rfl rfl ?_)
        | refine ops_fl rfl rfl rfl (fl_load_cp ti60 rfl rfl rfl rfl rfl rfl ?_)
        refine ops_fl rfl rfl rfl (fl_move rfl rfl ?_)
        refine ops_fl rfl rfl rfl (fl_pneq_self up60 ti63 rfl rfl rfl rfl ?_)
        refine ops_nil ?_
        refine seq_normal ?_
        refine runs_cond rfl (fun h2 => ?_) (fun h2 => ?_)
        · try simp only [decide_eq_true_eq, decide_eq_false_iff_not, Bool.not_eq_true', Bool.not_eq_false', Bool.not_true, Bool.not_false, Int.not_lt, Int.not_le, Bool.and_eq_true, Bool.or_eq_true, Bool.and_eq_false_iff, Bool.or_eq_false_iff, Bool.false_eq_true, Bool.true_eq_false, not_true_eq_false, not_false_eq_true, decide_true, decide_false, true_and, and_true, false_and, and_false, true_or, or_true, false_or, or_false, Bool.true_and, Bool.false_and, Bool.and_true, Bool.and_false, Bool.true_or, Bool.false_or, Bool.or_true, Bool.or_false, Int.reduceEq, Int.reduceNe, Int.reduceLT, Int.reduceLE, Int.toNat_natCast, toNat_add1] at h2
          all_goals (first | contradiction | (exfalso; omega) | (exfalso; simp_all))
        · try simp only [decide_eq_true_eq, decide_eq_false_iff_not, Bool.not_eq_true', Bool.not_eq_false', Bool.not_true, Bool.not_false, Int.not_lt, Int.not_le, Bool.and_eq_true, Bool.or_eq_true, Bool.and_eq_false_iff, Bool.or_eq_false_iff, Bool.false_eq_true, Bool.true_eq_false, not_true_eq_false, not_false_eq_true, decide_true, decide_false, true_and, and_true, false_and, and_false, true_or, or_true, false_or, or_false, Bool.true_and, Bool.false_and, Bool.and_true, Bool.and_false, Bool.true_or, Bool.false_or, Bool.or_true, Bool.or_false, Int.reduceEq, Int.reduceNe, Int.reduceLT, Int.reduceLE, Int.toNat_natCast, toNat_add1] at h2
          all_goals try (first | contradiction | (exfalso; omega))
          all_goals (
            refine runs_skip ?_
            refine fin_normal ?_
            refine fin_od (l := []) rfl rfl ([0, 1]) ([.cells [.blk 0 0, .own 1 1 (bytesD s)] 63, .row 5 1]) rfl rfl rfl ?_ ?_
            · repeat (first | exact .nil | refine .cons rfl (.cells rfl (FitL.rfl _)) ?_ | refine .cons rfl .row ?_ | refine .cons rfl .mapI ?_ | refine .cons rfl .nnrow ?_ | refine .cons rfl .nrow ?_ | refine .cons rfl .dead ?_ | refine .cons rfl (.cells rfl ?_) ?_ | refine .cons (by first | exact .refl _ | exact .toD rfl | exact .nilD) ?_)
            · exact ⟨rfl, rfl⟩
          )
      )

theorem ws_spec (used : Bool) (s t : ByteArray) (ht : t ≠ .empty) (hb : s.size + t.size ≤ 70368744177664) :
    Tri Tryd.prog gl 48 (bldO used s) [.blk 0 0, .d (.v (.string t))] fun out ob' => out = .ret (.d (.tup [.v (.int .i64 t.size), .v .nilIface])) ∧ ob' = bldO true (s ++ t) := by
  have hck := check_spec (gl := gl) used s
  cases used
  all_goals (
    unfold bldO bldA
    dsimp only [cond_true, cond_false]
    refine triS_of_runs Tryd.func48 rfl Tryd.ntmps48 (rs := [.tmp 4, .tmp 5]) rfl rfl rfl 2 rfl ?_
    refine runs_seq ?_
    refine runs_region ?_
    refine ops_fl rfl rfl rfl (fl_assign rfl rfl ?_)
    refine ops_fl rfl rfl rfl (fl_assign rfl rfl ?_)
    refine ops_nil ?_
    refine seq_normal ?_
    refine runs_seq ?_
    refine runs_region ?_
    refine ops_fl rfl rfl rfl (fl_move rfl rfl ?_)
    refine ops_cons rfl (op_callo ca57 rfl rfl rfl rfl (hck) [0, 1] (.cons rfl (by first | exact .cells rfl (FitL.rfl _) | exact .row | exact .nrow | exact .mapI | exact .nnrow | (refine .cells rfl ?_; repeat (first | exact .nil | refine .cons (by first | exact .refl _ | exact .toD rfl | exact .nil rfl | exact .nilD) ?_))) (.cons rfl (by first | exact .cells rfl (FitL.rfl _) | exact .row | exact .nrow | exact .mapI | exact .nnrow | (refine .cells rfl ?_; repeat (first | exact .nil | refine .cons (by first | exact .refl _ | exact .toD rfl | exact .nil rfl | exact .nilD) ?_))) .nil)) rfl rfl rfl rfl (.cons (by first | exact .refl _ | exact .toD rfl | exact .nil rfl | exact .nilD | exact .dle rfl (by repeat' (first | exact DLe.refl _ | exact DLe.nil | exact DLeL.nil | exact DLeLL.nil | apply DLe.agg | apply DLe.tup | apply DLe.sl | apply DLe.cp | apply DLeL.cons | apply DLeLL.cons))) .nil) (fun s ob' hq => ?_) (fun s ob' hq => ?_))
    rotate_left
    · first | exact hq.elim | cases hq.1
    obtain ⟨hq1, rfl⟩ := hq
    cases hq1
    refine ⟨_, _, _, _, _, rfl, rfl, rfl, rfl, rfl, ?_⟩
    refine ops_nil ?_
    refine seq_normal ?_
    refine runs_seq ?_
    refine runs_keep [0, 1] rfl ?_
    refine runs_region ?_
    refine ops_fl rfl rfl rfl (fl_move rfl rfl ?_)
    refine ops_fl rfl rfl rfl (fl_move rfl rfl ?_)
    first
    | refine ops_fl rfl rfl rfl (fl_nil_blk rfl rfl ?_)
    | refine ops_fl rfl rfl rfl (fl_nil_cp rfl rfl ?_)
    first
    | refine ops_fl rfl rfl rfl (fl_field_blk ti63 rfl rfl rfl rfl ?_)
    | refine ops_fl rfl rfl rfl (fl_field_cp ti63 rfl rfl rfl rfl rfl ?_)
    first
    | refine ops_fl rfl rfl rfl (fl_load_blk ti61 rfl rfl rfl rfl rfl rfl rfl ?_)
    | refine ops_fl rfl rfl rfl (fl_load_cp ti61 rfl rfl rfl rfl rfl rfl ?_)
    refine ops_fl rfl rfl rfl (fl_move rfl rfl ?_)
    refine ops_cons rfl (op_appends sl61 ut9 rfl rfl rfl rfl rfl rfl (.inl rfl) (ht) (by omega) rfl rfl rfl ?_)
    first
    | refine ops_fl rfl rfl rfl (fl_nil_blk rfl rfl ?_)
    | refine ops_fl rfl rfl rfl (fl_nil_cp rfl rfl ?_)
    first
    | refine ops_fl rfl rfl rfl (fl_field_blk ti63 rfl rfl rfl rfl ?_)
    | refine ops_fl rfl rfl rfl (fl_field_cp ti63 rfl rfl rfl rfl rfl ?_)
    refine ops_cons rfl (op_store ti61 rfl rfl rfl rfl rfl rfl rfl rfl rfl rfl rfl ?_)
    refine ops_nil ?_
    refine seq_normal ?_
    refine runs_seq ?_
    refine runs_keep [1] rfl ?_
    refine runs_region ?_
    refine ops_fl rfl rfl rfl (fl_move rfl rfl ?_)
    refine ops_fl rfl rfl rfl (fl_len_s ut9 rfl rfl ?_)
    refine ops_fl rfl rfl rfl (fl_assign rfl rfl ?_)
    refine ops_fl rfl rfl rfl (fl_assign rfl rfl ?_)
    refine ops_nil ?_
    refine seq_normal ?_
    refine runs_ret ?_
    refine fin_ret ?_
    refine fin_od ⟨_, _, rfl, rfl, ⟨_, _, rfl, rfl, rfl⟩⟩ rfl ([0, 1]) ([.cells [.blk 0 0, .own 1 1 (bytesD (s ++ t))] 63, .row 5 1]) rfl rfl rfl ?_ ?_
    · repeat (first | exact .nil | refine .cons rfl (.cells rfl (FitL.rfl _)) ?_ | refine .cons rfl .row ?_ | refine .cons rfl .mapI ?_ | refine .cons rfl .nnrow ?_ | refine .cons rfl .nrow ?_ | refine .cons rfl .dead ?_ | refine .cons rfl (.cells rfl ?_) ?_ | refine .cons (by first | exact .refl _ | exact .toD rfl | exact .nilD) ?_)
    · exact ⟨rfl, rfl⟩
  )

theorem bytesD_push (s : ByteArray) (c : UInt8) : bytesD s ++ [[.v (.int .u8 c.toNat)]] = bytesD (s ++ ⟨#[c]⟩) := by
  rw [← bytesD_app]; rfl

theorem wb_spec (used : Bool) (s : ByteArray) (c : UInt8) (hb : s.size ≤ 70368744177664) :
    Tri Tryd.prog gl 49 (bldO used s) [.blk 0 0, .d (.v (.int .u8 c.toNat))] fun out ob' => out = .ret (.d (.v .nilIface)) ∧ ob' = bldO true (s ++ ⟨#[c]⟩) := by
  have hl := bytesD_len s
  have hck := check_spec (gl := gl) used s
  cases used
  all_goals (
    unfold bldO bldA
    dsimp only [cond_true, cond_false]
    refine triS_of_runs Tryd.func49 rfl Tryd.ntmps49 (rs := [.tmp 4]) rfl rfl rfl 2 rfl ?_
    refine runs_seq ?_
    refine runs_region ?_
    refine ops_fl rfl rfl rfl (fl_assign rfl rfl ?_)
    refine ops_nil ?_
    refine seq_normal ?_
    refine runs_seq ?_
    refine runs_region ?_
    refine ops_fl rfl rfl rfl (fl_move rfl rfl ?_)
    refine ops_cons rfl (op_callo ca57 rfl rfl rfl rfl (hck) [0, 1] (.cons rfl (by first | exact .cells rfl (FitL.rfl _) | exact .row | exact .nrow | exact .mapI | exact .nnrow | (refine .cells rfl ?_; repeat (first | exact .nil | refine .cons (by first | exact .refl _ | exact .toD rfl | exact .nil rfl | exact .nilD) ?_))) (.cons rfl (by first | exact .cells rfl (FitL.rfl _) | exact .row | exact .nrow | exact .mapI | exact .nnrow | (refine .cells rfl ?_; repeat (first | exact .nil | refine .cons (by first | exact .refl _ | exact .toD rfl | exact .nil rfl | exact .nilD) ?_))) .nil)) rfl rfl rfl rfl (.cons (by first | exact .refl _ | exact .toD rfl | exact .nil rfl | exact .nilD | exact .dle rfl (by repeat' (first | exact DLe.refl _ | exact DLe.nil | exact DLeL.nil | exact DLeLL.nil | apply DLe.agg | apply DLe.tup | apply DLe.sl | apply DLe.cp | apply DLeL.cons | apply DLeLL.cons))) .nil) (fun s ob' hq => ?_) (fun s ob' hq => ?_))
    rotate_left
    · first | exact hq.elim | cases hq.1
    obtain ⟨hq1, rfl⟩ := hq
    cases hq1
    refine ⟨_, _, _, _, _, rfl, rfl, rfl, rfl, rfl, ?_⟩
    refine ops_nil ?_
    refine seq_normal ?_
    refine runs_seq ?_
    refine runs_region ?_
    refine ops_fl rfl rfl rfl (fl_move rfl rfl ?_)
    refine ops_fl rfl rfl rfl (fl_move rfl rfl ?_)
    first
    | refine ops_fl rfl rfl rfl (fl_nil_blk rfl rfl ?_)
    | refine ops_fl rfl rfl rfl (fl_nil_cp rfl rfl ?_)
    first
    | refine ops_fl rfl rfl rfl (fl_field_blk ti63 rfl rfl rfl rfl ?_)
    | refine ops_fl rfl rfl rfl (fl_field_cp ti63 rfl rfl rfl rfl rfl ?_)
    first
    | refine ops_fl rfl rfl rfl (fl_load_blk ti61 rfl rfl rfl rfl rfl rfl rfl ?_)
    | refine ops_fl rfl rfl rfl (fl_load_cp ti61 rfl rfl rfl rfl rfl rfl ?_)
    refine ops_fl rfl rfl rfl (fl_move rfl rfl ?_)
    refine ops_cons (T := fun _ => False) rfl (op_lit sl61 [.tmp 12] ti5 rfl rfl rfl rfl rfl rfl rfl (by decide) (by decide) (by decide) (by simp only [List.length_cons, List.length_nil, Nat.reduceAdd]; rfl) rfl ?_)
    first
    | refine ops_cons rfl (op_append sl61 rfl rfl rfl rfl rfl rfl rfl (.inl rfl) (by decide) (by simp) (by simp only [maxLen, hl, List.length_cons, List.length_nil]; omega) rfl rfl rfl ?_)
    | refine ops_cons (T := fun _ => False) rfl (op_append_nil sl61 rfl rfl rfl rfl rfl rfl (by simp only [List.length_cons, List.length_nil, Nat.reduceAdd]; rfl) rfl rfl (by decide) (by simp) (by simp only [maxLen, hl, List.length_cons, List.length_nil]; omega) rfl rfl rfl ?_)
    first
    | refine ops_fl rfl rfl rfl (fl_nil_blk rfl rfl ?_)
    | refine ops_fl rfl rfl rfl (fl_nil_cp rfl rfl ?_)
    first
    | refine ops_fl rfl rfl rfl (fl_field_blk ti63 rfl rfl rfl rfl ?_)
    | refine ops_fl rfl rfl rfl (fl_field_cp ti63 rfl rfl rfl rfl rfl ?_)
    refine ops_cons rfl (op_store ti61 rfl rfl rfl rfl rfl rfl rfl rfl rfl rfl rfl ?_)
    refine ops_nil ?_
    refine seq_normal ?_
    refine runs_seq ?_
    refine runs_keep [] rfl ?_
    refine runs_region ?_
    refine ops_fl rfl rfl rfl (fl_assign rfl rfl ?_)
    refine ops_nil ?_
    refine seq_normal ?_
    refine runs_ret ?_
    refine fin_ret ?_
    refine fin_od ⟨_, _, rfl, rfl, rfl⟩ rfl ([0, 1]) ([.cells [.blk 0 0, .own 1 1 (bytesD s ++ [[.v (.int .u8 c.toNat)]])] 63, .row 5 1]) rfl rfl rfl ?_ ?_
    · repeat (first | exact .nil | refine .cons rfl (.cells rfl (FitL.rfl _)) ?_ | refine .cons rfl .row ?_ | refine .cons rfl .mapI ?_ | refine .cons rfl .nnrow ?_ | refine .cons rfl .nrow ?_ | refine .cons rfl .dead ?_ | refine .cons rfl (.cells rfl ?_) ?_ | refine .cons (by first | exact .refl _ | exact .toD rfl | exact .nilD) ?_)
    · exact ⟨rfl, by rw [bytesD_push]⟩
  )

theorem bstr_spec (s : ByteArray) (hs : s ≠ .empty) :
    Tri Tryd.prog gl 31 (bldO true s) [.blk 0 0] fun out ob' => out = .ret (.d (.v (.string s))) ∧ ob' = [.dead, .dead] := by
  have hl := bytesD_len s
  have hne := bytesD_ne hs
  unfold bldO
  refine triS_of_runs Tryd.func31 rfl Tryd.ntmps31 (rs := [.tmp 2]) rfl rfl rfl 2 rfl ?_
  refine runs_seq ?_
  refine runs_region ?_
  refine ops_fl rfl rfl rfl (fl_assign rfl rfl ?_)
  refine ops_nil ?_
  refine seq_normal ?_
  refine runs_seq ?_
  refine any_start mixed rfl rfl ?_
  refine any_fl 0 rfl rfl rfl rfl (by kernel_rfl) rfl (fl_move rfl rfl ⟨_, rfl, ?_⟩)
  first
  | refine any_fl 1 rfl rfl rfl rfl (by kernel_rfl) rfl (fl_nil_blk rfl rfl ⟨_, rfl, ?_⟩)
  | refine any_fl 1 rfl rfl rfl rfl (by kernel_rfl) rfl (fl_nil_cp rfl rfl ⟨_, rfl, ?_⟩)
  first
  | refine any_fl 2 rfl rfl rfl rfl (by kernel_rfl) rfl (fl_field_blk ti63 rfl rfl rfl rfl ⟨_, rfl, ?_⟩)
  | refine any_fl 2 rfl rfl rfl rfl (by kernel_rfl) rfl (fl_field_cp ti63 rfl rfl rfl rfl rfl ⟨_, rfl, ?_⟩)
  first
  | refine any_fl 3 rfl rfl rfl rfl (by kernel_rfl) rfl (fl_load_blk ti61 rfl rfl rfl rfl rfl rfl rfl ⟨_, rfl, ?_⟩)
  | refine any_fl 3 rfl rfl rfl rfl (by kernel_rfl) rfl (fl_load_cp ti61 rfl rfl rfl rfl rfl rfl ⟨_, rfl, ?_⟩)
  refine any_fl 4 rfl rfl rfl rfl (by kernel_rfl) rfl (fl_usd rfl rfl (by exact hne) ⟨_, rfl, ?_⟩)
  refine any_fl 5 rfl rfl rfl rfl (by kernel_rfl) rfl (fl_move rfl rfl ⟨_, rfl, ?_⟩)
  first
  | refine any_fl 6 rfl rfl rfl rfl (by kernel_rfl) rfl (fl_nil_blk rfl rfl ⟨_, rfl, ?_⟩)
  | refine any_fl 6 rfl rfl rfl rfl (by kernel_rfl) rfl (fl_nil_cp rfl rfl ⟨_, rfl, ?_⟩)
  first
  | refine any_fl 7 rfl rfl rfl rfl (by kernel_rfl) rfl (fl_field_blk ti63 rfl rfl rfl rfl ⟨_, rfl, ?_⟩)
  | refine any_fl 7 rfl rfl rfl rfl (by kernel_rfl) rfl (fl_field_cp ti63 rfl rfl rfl rfl rfl ⟨_, rfl, ?_⟩)
  first
  | refine any_fl 8 rfl rfl rfl rfl (by kernel_rfl) rfl (fl_load_blk ti61 rfl rfl rfl rfl rfl rfl rfl ⟨_, rfl, ?_⟩)
  | refine any_fl 8 rfl rfl rfl rfl (by kernel_rfl) rfl (fl_load_cp ti61 rfl rfl rfl rfl rfl rfl ⟨_, rfl, ?_⟩)
  first
  | refine any_fl 9 rfl rfl rfl rfl (by kernel_rfl) rfl (fl_len us61 rfl rfl ⟨_, rfl, ?_⟩)
  | refine any_fl 9 rfl rfl rfl rfl (by kernel_rfl) rfl (fl_len_own us61 rfl rfl ⟨_, rfl, ?_⟩)
  | refine any_fl 9 rfl rfl rfl rfl (by kernel_rfl) rfl (fl_len_nil us61 rfl rfl ⟨_, rfl, ?_⟩)
  refine any_st 10 rfl rfl (by kernel_rfl) rfl rfl (by intro p hp; simp only [List.mem_cons, List.not_mem_nil, or_false] at hp; all_goals (first | exact hp.elim | (subst hp; exact ⟨by simp, _, _, rfl⟩) | (rcases hp with rfl | rfl <;> exact ⟨by simp, _, _, rfl⟩) | (rcases hp with rfl | rfl | rfl <;> exact ⟨by simp, _, _, rfl⟩) | (rcases hp with rfl | rfl | rfl | rfl <;> exact ⟨by simp, _, _, rfl⟩) | (rcases hp with rfl | rfl | rfl | rfl | rfl <;> exact ⟨by simp, _, _, rfl⟩))) (op_ustr (u := 6) up88 (by kernel_rfl) rfl rfl rfl rfl rfl rfl rfl hs (by rw [hl]) rfl rfl ?_)
  refine any_fl 11 rfl rfl rfl rfl (by kernel_rfl) rfl (fl_assign rfl rfl ⟨_, rfl, ?_⟩)
  refine any_end (by kernel_rfl) ?_
  refine seq_normal ?_
  refine runs_ret ?_
  refine fin_ret ?_
  refine fin_od ⟨_, _, rfl, rfl, rfl⟩ rfl ([0, 1]) ([.dead, .dead]) rfl rfl rfl ?_ ?_
  · repeat (first | exact .nil | refine .cons rfl (.cells rfl (FitL.rfl _)) ?_ | refine .cons rfl .row ?_ | refine .cons rfl .mapI ?_ | refine .cons rfl .nnrow ?_ | refine .cons rfl .nrow ?_ | refine .cons rfl .dead ?_ | refine .cons rfl (.cells rfl ?_) ?_ | refine .cons (by first | exact .refl _ | exact .toD rfl | exact .nilD) ?_)
  · exact ⟨rfl, rfl⟩
end Go.Proofs.YtafhnnbbfgoacaaDoor
