/-
  What is proved here: contracts of the program's Params.
-/
import Derived.Test.YtafhnnbbfgoacaaDoorYR9
set_option linter.unusedSimpArgs false
set_option linter.unusedVariables false
namespace Go.Proofs.YtafhnnbbfgoacaaDoor
open Go Go.Vd Go.RowKit
attribute [local irreducible] Runs OpsR OpR FloatR AnyR
variable {gl : Nat → List D}

theorem memB_addName {s : ByteArray} {ah : List ByteArray} : addName s ah = if memB s ah then ah else ah ++ [s] := rfl
theorem eachP_lev : ∀ (l : Lev) (ah : List ByteArray), eachP l.toLvl ah = l.params ah
  | .zero, ah => rfl
  | .param s, ah => rfl
  | .succ a, ah => by
    have := eachP_lev a ah
    simp only [Lev.toLvl, eachP, eachL, Lev.params]
    exact this
  | .max a b, ah => by
    have h1 := eachP_lev a ah
    have h2 := eachP_lev b (a.params ah)
    simp only [Lev.toLvl, eachP, eachL, Lev.params]
    rw [← h2, ← h1]; rfl
  | .imax a b, ah => by
    have h1 := eachP_lev a ah
    have h2 := eachP_lev b (a.params ah)
    simp only [Lev.toLvl, eachP, eachL, Lev.params]
    rw [← h2, ← h1]; rfl

theorem pparams_spec (k : Int) (s : ByteArray) (args : List Lvl) (hb : (Lvl.mk k s args).size ≤ 1099511627776) :
    TriD Tryd.prog gl 17 [(Lvl.mk k s args).d] (· = strsD (eachP (.mk k s args) [])) := by
  refine triD_of_runs Tryd.func17 rfl Tryd.ntmps17 (rs := [.tmp 2]) rfl rfl rfl ?_
  refine runs_seq ?_
  refine runs_region ?_
  refine ops_cons (T := fun _ => False) rfl (op_box ti31 rfl rfl rfl rfl rfl (by simp only [List.length_cons, List.length_nil, Nat.reduceAdd]; rfl) rfl ?_)
  refine ops_fl rfl rfl rfl (fl_assign rfl rfl ?_)
  refine ops_nil ?_
  refine seq_normal ?_
  refine runs_seq ?_
  refine runs_region ?_
  refine ops_cons (T := fun _ => False) rfl (op_alloc ti36 rfl rfl rfl rfl rfl (by simp only [List.length_cons, List.length_nil, Nat.reduceAdd]; rfl) rfl ?_)
  refine ops_nil ?_
  refine seq_normal ?_
  refine runs_seq ?_
  refine runs_nilrow 9 1 rfl ?_
  refine runs_region ?_
  first
  | refine ops_fl rfl rfl rfl (fl_load_blk ti31 rfl rfl rfl rfl rfl rfl rfl ?_)
  | refine ops_fl rfl rfl rfl (fl_load_cp ti31 rfl rfl rfl rfl rfl rfl ?_)
  | refine ops_fl rfl rfl rfl (fl_load_all ti31 rfl rfl rfl rfl (by first | rfl | exact Lvl.cells_len _) ?_)
  refine ops_fl rfl rfl rfl (fl_func rfl rfl rfl ?_)
  refine ops_cons rfl (op_callo ca37 rfl rfl rfl rfl (each_spec _ k s args [] (Nat.le_refl _) (by simpa using hb)) [1, 2] (.cons rfl (by first | exact .cells rfl (FitL.rfl _) | exact .row | exact .nrow | exact .mapI | exact .nnrow | (refine .cells rfl ?_; repeat (first | exact .nil | refine .cons (by first | exact .refl _ | exact .toD rfl | exact .nil rfl | exact .nilD) ?_))) (.cons rfl (by first | exact .cells rfl (FitL.rfl _) | exact .row | exact .nrow | exact .mapI | exact .nnrow | (refine .cells rfl ?_; repeat (first | exact .nil | refine .cons (by first | exact .refl _ | exact .toD rfl | exact .nil rfl | exact .nilD) ?_))) .nil)) rfl rfl rfl rfl (.cons (by first | exact .refl _ | exact .toD rfl | exact .nil rfl | exact .nilD | exact .dle rfl (by repeat' (first | exact DLe.refl _ | exact DLe.nil | exact DLeL.nil | exact DLeLL.nil | apply DLe.agg | apply DLe.tup | apply DLe.sl | apply DLe.cp | apply DLeL.cons | apply DLeLL.cons))) (.cons (by first | exact .refl _ | exact .toD rfl | exact .nil rfl | exact .nilD | exact .dle rfl (by repeat' (first | exact DLe.refl _ | exact DLe.nil | exact DLeL.nil | exact DLeLL.nil | apply DLe.agg | apply DLe.tup | apply DLe.sl | apply DLe.cp | apply DLeL.cons | apply DLeLL.cons))) .nil)) (fun s ob' hq => ?_) (fun s ob' hq => ?_))
  rotate_left
  · first | exact hq.elim | cases hq.1
  obtain ⟨hq1, rfl⟩ := hq
  cases hq1
  refine ⟨_, _, _, _, _, rfl, rfl, rfl, rfl, rfl, ?_⟩
  refine ops_nil ?_
  refine seq_normal ?_
  refine runs_seq ?_
  refine runs_keep [3] rfl ?_
  refine runs_region ?_
  first
  | refine ops_fl rfl rfl rfl (fl_load_blk ti36 rfl rfl rfl rfl rfl rfl rfl ?_)
  | refine ops_fl rfl rfl rfl (fl_load_cp ti36 rfl rfl rfl rfl rfl rfl ?_)
  refine ops_fl rfl rfl rfl (fl_assign rfl rfl ?_)
  refine ops_nil ?_
  refine seq_normal ?_
  refine runs_ret ?_
  refine fin_ret ?_
  refine fin_d1 rfl rfl ?_
  rfl
end Go.Proofs.YtafhnnbbfgoacaaDoor
