/-
  What is proved here: LevelMakes, as a contract.
-/
import Derived.Test.YtafhnnbbfgoacaaDoorYRE
set_option linter.unusedSimpArgs false
set_option linter.unusedVariables false
namespace Go.Proofs.YtafhnnbbfgoacaaDoor
open Go Go.Vd Go.RowKit
attribute [local irreducible] Runs OpsR OpR FloatR AnyR AnyO
variable {gl : Nat → List D}

structure Step where
  k : Int
  s : ByteArray
  t : ByteArray
  u : ByteArray
  a : Int
  b : Int
def Step.cells (o : Step) : List D := [.v (.int .i64 o.k), .v (.string o.s), .v (.string o.t), .v (.string o.u), .v (.int .i64 o.a), .v (.int .i64 o.b)]
def steps (l : List Step) : List (List D) := l.map Step.cells
theorem steps_len (l : List Step) : (steps l).length = l.length := by simp [steps]
theorem step_at {l : List Step} {i : Nat} (h : i < l.length) : (steps l)[((i : Nat) : Int).toNat]? = some [.v (.int .i64 l[i].k), .v (.string l[i].s), .v (.string l[i].t), .v (.string l[i].u), .v (.int .i64 l[i].a), .v (.int .i64 l[i].b)] := by simp [steps, h, Step.cells]
def Step.okInts (o : Step) : Prop := i64 o.a ∧ i64 o.b

theorem makes_spec (hw : gl 0 = wordsD) (l : List Step) (hk : ∀ o ∈ l, o.okInts) : TriD Tryd.prog gl 3 [.sl 6 (steps l)] (· = .v (.bool true)) := by
  have hlen := steps_len l
  refine triD_of_runs Tryd.func3 rfl Tryd.ntmps3 (rs := [.tmp 2]) rfl rfl rfl ?_
  refine runs_seq ?_
  refine runs_region ?_
  refine ops_fl rfl rfl rfl (fl_assign rfl rfl ?_)
  refine ops_nil ?_
  refine seq_normal ?_
  refine runs_seq ?_
  refine runs_seq ?_
  refine runs_region ?_
  refine ops_fl rfl rfl rfl (fl_assign rfl rfl ?_)
  refine ops_nil ?_
  refine seq_normal ?_
  refine runs_block ?_
  refine runs_keep [3, 0] rfl ?_
  apply runs_loop_c (ι := Nat) (fun i => [(3, int i)]) [0] (fun i => i ≤ l.length ∧ i ≤ 1152921504606846976) (fun i => l.length - i) (0)
  case hk => exact rfl
  case hI =>
    exact ⟨Nat.zero_le _, by omega⟩
  case hm =>
    refine meets_of rfl rfl rfl ?_ (.cons rfl (by first | exact .refl _ | exact .toD rfl | exact .nilD | exact Fit.of_eq rfl | exact .dle rfl (by repeat' (first | exact DLe.refl _ | exact DLe.nil | exact DLeL.nil | exact DLeLL.nil | apply DLe.agg | apply DLe.tup | apply DLe.sl | apply DLe.cp | apply DLeL.cons | apply DLeLL.cons))) (.cons rfl (by first | exact .refl _ | exact .toD rfl | exact .nilD | exact Fit.of_eq rfl | exact .dle rfl (by repeat' (first | exact DLe.refl _ | exact DLe.nil | exact DLeL.nil | exact DLeLL.nil | apply DLe.agg | apply DLe.tup | apply DLe.sl | apply DLe.cp | apply DLeL.cons | apply DLeLL.cons))) .nil))
    repeat (first | exact .nil | refine .cons rfl (.cells rfl (FitL.rfl _)) ?_ | refine .cons rfl (.cells rfl (by repeat (first | exact .nil | refine .cons (by first | exact .refl _ | exact .toD rfl | exact .nil rfl | exact .nilD | exact Fit.of_eq rfl) ?_))) ?_ | refine .cons rfl .row ?_ | refine .cons rfl .mapI ?_ | refine .cons rfl .nnrow ?_ | refine .cons rfl .nrow ?_ | refine .cons rfl .dead ?_)
  case h =>
    rintro i hinv
    try dsimp only at hinv
    refine runs_keep [3, 0] rfl ?_
    refine runs_seq ?_
    refine runs_seq ?_
    refine runs_region ?_
    refine ops_fl rfl rfl rfl (fl_move rfl rfl ?_)
    refine ops_fl rfl rfl rfl (fl_move rfl rfl ?_)
    first
    | refine ops_fl rfl rfl rfl (fl_len us22 rfl rfl ?_)
    | refine ops_fl rfl rfl rfl (fl_len_own us22 rfl rfl ?_)
    | refine ops_fl rfl rfl rfl (fl_len_nil us22 rfl rfl ?_)
    refine ops_fl rfl rfl rfl (fl_lss rfl rfl rfl ?_)
    refine ops_fl rfl rfl rfl (fl_move rfl rfl ?_)
    apply ops_and (yt := 11) (d := 9) 2 rfl rfl rfl (.none rfl) rfl rfl
    case h1 =>
      intro hb9 hK
      have hc := hb9; try simp only [decide_eq_true_eq, decide_eq_false_iff_not, Bool.not_eq_true', Bool.not_eq_false', Bool.not_true, Bool.not_false, Int.not_lt, Int.not_le, Bool.and_eq_true, Bool.or_eq_true, Bool.and_eq_false_iff, Bool.or_eq_false_iff, Bool.false_eq_true, Bool.true_eq_false, not_true_eq_false, not_false_eq_true, decide_true, decide_false, true_and, and_true, false_and, and_false, true_or, or_true, false_or, or_false, Bool.true_and, Bool.false_and, Bool.and_true, Bool.and_false, Bool.true_or, Bool.false_or, Bool.or_true, Bool.or_false, Int.reduceEq, Int.reduceNe, Int.reduceLT, Int.reduceLE, Int.toNat_natCast, toNat_add1] at hc
      all_goals try (first | contradiction | (exfalso; omega))
      all_goals (
        refine ops_gyes rfl rfl rfl hb9 ?_
        refine ops_fl rfl rfl rfl (fl_move rfl rfl ?_)
        refine ops_gyes rfl rfl rfl hb9 ?_
        refine ops_fl rfl rfl rfl (fl_lss rfl rfl rfl ?_)
        exact hK [_, _] rfl rfl)
    case h2 =>
      intro hb9 hK
      refine ops_gno rfl rfl rfl hb9 rfl rfl ?_
      refine ops_gno rfl rfl rfl hb9 rfl rfl ?_
      exact hK [_, _] rfl
    refine ops_nil ?_
    refine seq_normal ?_
    refine runs_cond rfl (fun h2 => ?_) (fun h2 => ?_)
    · try simp only [decide_eq_true_eq, decide_eq_false_iff_not, Bool.not_eq_true', Bool.not_eq_false', Bool.not_true, Bool.not_false, Int.not_lt, Int.not_le, Bool.and_eq_true, Bool.or_eq_true, Bool.and_eq_false_iff, Bool.or_eq_false_iff, Bool.false_eq_true, Bool.true_eq_false, not_true_eq_false, not_false_eq_true, decide_true, decide_false, true_and, and_true, false_and, and_false, true_or, or_true, false_or, or_false, Bool.true_and, Bool.false_and, Bool.and_true, Bool.and_false, Bool.true_or, Bool.false_or, Bool.or_true, Bool.or_false, Int.reduceEq, Int.reduceNe, Int.reduceLT, Int.reduceLE, Int.toNat_natCast, toNat_add1] at h2
      all_goals try (first | contradiction | (exfalso; omega))
      all_goals (
        refine runs_skip ?_
        refine seq_normal ?_
        refine runs_seq ?_
        refine runs_block ?_
        refine runs_seq ?_
        refine runs_keep [3, 0] rfl ?_
        have hin : i < l.length := by omega
        have hoi := hk l[i] (List.getElem_mem hin)
        refine runs_region ?_
        refine ops_fl rfl rfl rfl (fl_move rfl rfl ?_)
        refine ops_fl rfl rfl rfl (fl_move rfl rfl ?_)
        first
        | refine ops_fl rfl rfl rfl (fl_index us22 te22 rfl rfl rfl rfl rfl (by omega) (step_at hin) ?_)
        | refine ops_fl rfl rfl rfl (fl_index_own us22 te22 rfl rfl rfl rfl rfl (by omega) (step_at hin) ?_)
        first
        | refine ops_fl rfl rfl rfl (fl_load_blk ti25 rfl rfl rfl rfl rfl rfl rfl ?_)
        | refine ops_fl rfl rfl rfl (fl_load_cp ti25 rfl rfl rfl rfl rfl rfl ?_)
        | refine ops_fl rfl rfl rfl (fl_load_all ti25 rfl rfl rfl rfl (by first | rfl | exact Lvl.cells_len _) ?_)
        refine ops_cons (T := fun _ => False) rfl (op_call ca6 rfl rfl rfl rfl (made_spec hw l[i].k l[i].s l[i].t l[i].u l[i].a l[i].b hoi.1 hoi.2) (.cons (by first | exact .refl _ | exact .toD rfl | exact .nilD | exact .dle rfl (by repeat' (first | exact DLe.refl _ | exact DLe.nil | exact DLeL.nil | exact DLeLL.nil | apply DLe.agg | apply DLe.tup | apply DLe.sl | apply DLe.cp | apply DLeL.cons | apply DLeLL.cons))) .nil) (fun d hd => ?_))
        obtain rfl := hd
        refine ops_fl rfl rfl rfl (fl_assign rfl rfl ?_)
        refine ops_nil ?_
        refine seq_normal ?_
        refine runs_seq ?_
        refine runs_keep [4, 3, 0] rfl ?_
        refine runs_region ?_
        refine ops_fl rfl rfl rfl (fl_move rfl rfl ?_)
        refine ops_fl rfl rfl rfl (fl_not rfl rfl ?_)
        refine ops_nil ?_
        refine seq_normal ?_
        refine runs_cond rfl (fun h5 => ?_) (fun h5 => ?_)
        · try simp only [decide_eq_true_eq, decide_eq_false_iff_not, Bool.not_eq_true', Bool.not_eq_false', Bool.not_true, Bool.not_false, Int.not_lt, Int.not_le, Bool.and_eq_true, Bool.or_eq_true, Bool.and_eq_false_iff, Bool.or_eq_false_iff, Bool.false_eq_true, Bool.true_eq_false, not_true_eq_false, not_false_eq_true, decide_true, decide_false, true_and, and_true, false_and, and_false, true_or, or_true, false_or, or_false, Bool.true_and, Bool.false_and, Bool.and_true, Bool.and_false, Bool.true_or, Bool.false_or, Bool.or_true, Bool.or_false, Int.reduceEq, Int.reduceNe, Int.reduceLT, Int.reduceLE, Int.toNat_natCast, toNat_add1] at h5
          all_goals (first | contradiction | (exfalso; omega) | (exfalso; simp_all))
        · try simp only [decide_eq_true_eq, decide_eq_false_iff_not, Bool.not_eq_true', Bool.not_eq_false', Bool.not_true, Bool.not_false, Int.not_lt, Int.not_le, Bool.and_eq_true, Bool.or_eq_true, Bool.and_eq_false_iff, Bool.or_eq_false_iff, Bool.false_eq_true, Bool.true_eq_false, not_true_eq_false, not_false_eq_true, decide_true, decide_false, true_and, and_true, false_and, and_false, true_or, or_true, false_or, or_false, Bool.true_and, Bool.false_and, Bool.and_true, Bool.and_false, Bool.true_or, Bool.false_or, Bool.or_true, Bool.or_false, Int.reduceEq, Int.reduceNe, Int.reduceLT, Int.reduceLE, Int.toNat_natCast, toNat_add1] at h5
          all_goals try (first | contradiction | (exfalso; omega))
          all_goals (
            refine runs_skip ?_
            refine inb_normal ?_
            refine seq_normal ?_
            refine runs_region ?_
            refine ops_fl rfl rfl rfl (fl_move rfl rfl ?_)
            refine ops_fl rfl rfl rfl (fl_add rfl rfl rfl (by omega) ?_)
            refine ops_fl rfl rfl rfl (fl_assign rfl rfl ?_)
            refine ops_nil ?_
            refine seq_back ?_
            refine back_i (i + 1) rfl ?_ ?_
            · exact ⟨⟨by omega, by omega⟩, by omega⟩
            · refine meets_of rfl rfl rfl ?_ (.cons rfl (by first | exact .refl _ | exact .toD rfl | exact .nilD | exact Fit.of_eq rfl | exact .dle rfl (by repeat' (first | exact DLe.refl _ | exact DLe.nil | exact DLeL.nil | exact DLeLL.nil | apply DLe.agg | apply DLe.tup | apply DLe.sl | apply DLe.cp | apply DLeL.cons | apply DLeLL.cons))) (.cons rfl (by first | exact .refl _ | exact .toD rfl | exact .nilD | exact Fit.of_eq rfl | exact .dle rfl (by repeat' (first | exact DLe.refl _ | exact DLe.nil | exact DLeL.nil | exact DLeLL.nil | apply DLe.agg | apply DLe.tup | apply DLe.sl | apply DLe.cp | apply DLeL.cons | apply DLeLL.cons))) .nil))
              repeat (first | exact .nil | refine .cons rfl (.cells rfl (FitL.rfl _)) ?_ | refine .cons rfl (.cells rfl (by repeat (first | exact .nil | refine .cons (by first | exact .refl _ | exact .toD rfl | exact .nil rfl | exact .nilD | exact Fit.of_eq rfl) ?_))) ?_ | refine .cons rfl .row ?_ | refine .cons rfl .mapI ?_ | refine .cons rfl .nnrow ?_ | refine .cons rfl .nrow ?_ | refine .cons rfl .dead ?_)
          )
      )
    · try simp only [decide_eq_true_eq, decide_eq_false_iff_not, Bool.not_eq_true', Bool.not_eq_false', Bool.not_true, Bool.not_false, Int.not_lt, Int.not_le, Bool.and_eq_true, Bool.or_eq_true, Bool.and_eq_false_iff, Bool.or_eq_false_iff, Bool.false_eq_true, Bool.true_eq_false, not_true_eq_false, not_false_eq_true, decide_true, decide_false, true_and, and_true, false_and, and_false, true_or, or_true, false_or, or_false, Bool.true_and, Bool.false_and, Bool.and_true, Bool.and_false, Bool.true_or, Bool.false_or, Bool.or_true, Bool.or_false, Int.reduceEq, Int.reduceNe, Int.reduceLT, Int.reduceLE, Int.toNat_natCast, toNat_add1] at h2
      all_goals try (first | contradiction | (exfalso; omega))
      all_goals (
        refine runs_exit ?_
        refine seq_exit ?_
        refine seq_exit ?_
        refine inb_exit ?_
        refine seq_normal ?_
        refine runs_seq ?_
        refine runs_keep [] rfl ?_
        refine runs_region ?_
        refine ops_fl rfl rfl rfl (fl_assign rfl rfl ?_)
        refine ops_nil ?_
        refine seq_normal ?_
        refine runs_ret ?_
        refine fin_ret ?_
        refine fin_d1 rfl rfl ?_
        rfl
      )
end Go.Proofs.YtafhnnbbfgoacaaDoor
