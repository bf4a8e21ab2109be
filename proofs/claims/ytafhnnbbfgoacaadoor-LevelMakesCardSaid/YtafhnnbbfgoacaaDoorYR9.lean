/-
  What is proved here: contracts of the program's Params and its closures.
-/
import Derived.Test.YtafhnnbbfgoacaaDoorYR8
set_option linter.unusedSimpArgs false
set_option linter.unusedVariables false
namespace Go.Proofs.YtafhnnbbfgoacaaDoor
open Go Go.Vd Go.RowKit
attribute [local irreducible] Runs OpsR OpR FloatR AnyR
variable {gl : Nat → List D}

def outO (ah : List ByteArray) : List Ob := [.cells [.own 1 1 (strs ah)] 36, .row 9 1]
def addName (s : ByteArray) (ah : List ByteArray) : List ByteArray := if memB s ah then ah else ah ++ [s]

theorem put_spec (s : ByteArray) (ah : List ByteArray) (hb : ah.length ≤ 1099511627776) :
    Tri Tryd.prog gl 38 (outO ah) [.d (.v (.string s)), .blk 0 0] fun out ob' => out = .ret (.d (.tup [])) ∧ ob' = outO (addName s ah) := by
  have hla := strs_len ah
  unfold outO
  refine triS_of_runs Tryd.func38 rfl Tryd.ntmps38 (rs := []) rfl rfl rfl 2 rfl ?_
  refine runs_seq ?_
  refine runs_region ?_
  first
  | refine ops_fl rfl rfl rfl (fl_load_blk ti36 rfl rfl rfl rfl rfl rfl rfl ?_)
  | refine ops_fl rfl rfl rfl (fl_load_cp ti36 rfl rfl rfl rfl rfl rfl ?_)
  refine ops_fl rfl rfl rfl (fl_move rfl rfl ?_)
  refine ops_cons (T := fun _ => False) rfl (op_call ca39 rfl rfl rfl rfl (contains_spec ah s (by omega)) (.cons (by first | exact .refl _ | exact .toD rfl | exact .nilD | exact .dle rfl (by repeat' (first | exact DLe.refl _ | exact DLe.nil | exact DLeL.nil | exact DLeLL.nil | apply DLe.agg | apply DLe.tup | apply DLe.sl | apply DLe.cp | apply DLeL.cons | apply DLeLL.cons))) (.cons (by first | exact .refl _ | exact .toD rfl | exact .nilD | exact .dle rfl (by repeat' (first | exact DLe.refl _ | exact DLe.nil | exact DLeL.nil | exact DLeLL.nil | apply DLe.agg | apply DLe.tup | apply DLe.sl | apply DLe.cp | apply DLeL.cons | apply DLeLL.cons))) .nil)) (fun d hd => ?_))
  obtain rfl := hd
  refine ops_fl rfl rfl rfl (fl_not rfl rfl ?_)
  refine ops_nil ?_
  refine seq_normal ?_
  refine runs_cond rfl (fun h0 => ?_) (fun h0 => ?_)
  · try simp only [decide_eq_true_eq, decide_eq_false_iff_not, Bool.not_eq_true', Bool.not_eq_false', Bool.not_true, Bool.not_false, Int.not_lt, Int.not_le, Bool.and_eq_true, Bool.or_eq_true, Bool.and_eq_false_iff, Bool.or_eq_false_iff, Bool.false_eq_true, Bool.true_eq_false, not_true_eq_false, not_false_eq_true, decide_true, decide_false, true_and, and_true, false_and, and_false, true_or, or_true, false_or, or_false, Bool.true_and, Bool.false_and, Bool.and_true, Bool.and_false, Bool.true_or, Bool.false_or, Bool.or_true, Bool.or_false, Int.reduceEq, Int.reduceNe, Int.reduceLT, Int.reduceLE, Int.toNat_natCast, toNat_add1] at h0
    all_goals try (first | contradiction | (exfalso; omega))
    all_goals (
      refine runs_keep [0, 1] rfl ?_
      refine runs_region ?_
      first
      | refine ops_fl rfl rfl rfl (fl_load_blk ti36 rfl rfl rfl rfl rfl rfl rfl ?_)
      | refine ops_fl rfl rfl rfl (fl_load_cp ti36 rfl rfl rfl rfl rfl rfl ?_)
      refine ops_fl rfl rfl rfl (fl_move rfl rfl ?_)
      refine ops_cons (T := fun _ => False) rfl (op_lit sl36 [.tmp 8] ti9 rfl rfl rfl rfl rfl rfl rfl (by decide) (by decide) (by decide) (by simp only [List.length_cons, List.length_nil, Nat.reduceAdd]; rfl) rfl ?_)
      first
      | refine ops_cons rfl (op_append sl36 rfl rfl rfl rfl rfl rfl rfl (.inl rfl) (by decide) (by simp) (by simp only [maxLen, hla, List.length_cons, List.length_nil]; omega) rfl rfl rfl ?_)
      | refine ops_cons (T := fun _ => False) rfl (op_append_nil sl36 rfl rfl rfl rfl rfl rfl (by simp only [List.length_cons, List.length_nil, Nat.reduceAdd]; rfl) rfl rfl (by decide) (by simp) (by simp only [maxLen, hla, List.length_cons, List.length_nil]; omega) rfl rfl rfl ?_)
      refine ops_cons rfl (op_store ti36 rfl rfl rfl rfl rfl rfl rfl rfl rfl rfl rfl ?_)
      refine ops_nil ?_
      refine fin_normal ?_
      refine fin_od (l := []) rfl rfl ([0, 1]) ([.cells [.own 1 1 (strs ah ++ [[.v (.string s)]])] 36, .row 9 1]) rfl rfl rfl ?_ ?_
      · repeat (first | exact .nil | refine .cons rfl (.cells rfl (FitL.rfl _)) ?_ | refine .cons rfl .row ?_ | refine .cons rfl .mapI ?_ | refine .cons rfl .nnrow ?_ | refine .cons rfl .nrow ?_ | refine .cons rfl .dead ?_ | refine .cons rfl (.cells rfl ?_) ?_ | refine .cons (by first | exact .refl _ | exact .toD rfl | exact .nilD) ?_)
      · exact ⟨rfl, by rw [show addName s ah = ah ++ [s] by unfold addName; rw [h0]; rfl, strs_app]⟩
    )
  · try simp only [decide_eq_true_eq, decide_eq_false_iff_not, Bool.not_eq_true', Bool.not_eq_false', Bool.not_true, Bool.not_false, Int.not_lt, Int.not_le, Bool.and_eq_true, Bool.or_eq_true, Bool.and_eq_false_iff, Bool.or_eq_false_iff, Bool.false_eq_true, Bool.true_eq_false, not_true_eq_false, not_false_eq_true, decide_true, decide_false, true_and, and_true, false_and, and_false, true_or, or_true, false_or, or_false, Bool.true_and, Bool.false_and, Bool.and_true, Bool.and_false, Bool.true_or, Bool.false_or, Bool.or_true, Bool.or_false, Int.reduceEq, Int.reduceNe, Int.reduceLT, Int.reduceLE, Int.toNat_natCast, toNat_add1] at h0
    all_goals try (first | contradiction | (exfalso; omega))
    all_goals (
      refine runs_skip ?_
      refine fin_normal ?_
      refine fin_od (l := []) rfl rfl ([0, 1]) ([.cells [.own 1 1 (strs ah)] 36, .row 9 1]) rfl rfl rfl ?_ ?_
      · repeat (first | exact .nil | refine .cons rfl (.cells rfl (FitL.rfl _)) ?_ | refine .cons rfl .row ?_ | refine .cons rfl .mapI ?_ | refine .cons rfl .nnrow ?_ | refine .cons rfl .nrow ?_ | refine .cons rfl .dead ?_ | refine .cons rfl (.cells rfl ?_) ?_ | refine .cons (by first | exact .refl _ | exact .toD rfl | exact .nilD) ?_)
      · exact ⟨rfl, by rw [show addName s ah = ah by unfold addName; rw [h0]; rfl]⟩
    )

mutual
def eachP : Lvl → List ByteArray → List ByteArray
  | .mk k s args, ah => eachL args (if k = 4 then addName s ah else ah)
def eachL : List Lvl → List ByteArray → List ByteArray
  | [], ah => ah
  | l :: r, ah => eachL r (eachP l ah)
end
theorem addName_len (s : ByteArray) (ah : List ByteArray) : (addName s ah).length ≤ ah.length + 1 := by
  unfold addName; split <;> simp
mutual
theorem eachP_len : ∀ (l : Lvl) (ah : List ByteArray), (eachP l ah).length ≤ ah.length + l.size
  | .mk k s args, ah => by
    have h := eachL_len args (if k = 4 then addName s ah else ah)
    have h2 := addName_len s ah
    simp only [eachP, Lvl.size]
    split at h <;> simp_all <;> omega
theorem eachL_len : ∀ (ls : List Lvl) (ah : List ByteArray), (eachL ls ah).length ≤ ah.length + sizes ls
  | [], ah => by simp [eachL, sizes]
  | l :: r, ah => by
    have h1 := eachP_len l ah
    have h2 := eachL_len r (eachP l ah)
    simp only [eachL, sizes]; omega
end
theorem eachL_append (l m : List Lvl) (ah : List ByteArray) : eachL (l ++ m) ah = eachL m (eachL l ah) := by
  induction l generalizing ah with
  | nil => rfl
  | cons x l ih => simp only [List.cons_append, eachL, ih]
theorem eachL_take {l : List Lvl} {i : Nat} {a : Lvl} (h : l[i]? = some a) (ah : List ByteArray) : eachL (l.take (i + 1)) ah = eachP a (eachL (l.take i) ah) := by
  rw [List.take_add_one, h, eachL_append]; rfl

theorem each_spec : ∀ (n : Nat) (k : Int) (s : ByteArray) (args : List Lvl) (ah : List ByteArray), (Lvl.mk k s args).size ≤ n → ah.length + (Lvl.mk k s args).size ≤ 1099511627776 →
    Tri Tryd.prog gl 37 (outO ah) [.d (Lvl.mk k s args).d, .fn (.func 38) [] [.blk 0 0]] fun out ob' => out = .ret (.d (.tup [])) ∧ ob' = outO (eachP (.mk k s args) ah) := by
  intro n
  induction n with
  | zero => intro k s args ah h; simp [Lvl.size] at h
  | succ n ih =>
    intro k s args ah hn hb
    have hsz : sizes args ≤ n := by simp [Lvl.size] at hn; omega
    have hlen := lvls_len args
    have hlb := lvls_size args
    simp only [Lvl.size] at hb
    have hal := addName_len s ah
    unfold outO at ih ⊢
    refine triS_of_runs Tryd.func37 rfl Tryd.ntmps37 (rs := []) rfl rfl rfl 2 rfl ?_
    refine runs_seq ?_
    refine runs_region ?_
    refine ops_cons (T := fun _ => False) rfl (op_box ti31 rfl rfl rfl rfl rfl (by simp only [List.length_cons, List.length_nil, Nat.reduceAdd]; rfl) rfl ?_)
    refine ops_nil ?_
    refine seq_normal ?_
    refine runs_seq ?_
    refine runs_seq ?_
    refine runs_region ?_
    first
    | refine ops_fl rfl rfl rfl (fl_field_blk ti31 rfl rfl rfl rfl ?_)
    | refine ops_fl rfl rfl rfl (fl_field_cp ti31 rfl rfl rfl rfl rfl ?_)
    first
    | refine ops_fl rfl rfl rfl (fl_load_blk ti3 rfl rfl rfl rfl rfl rfl rfl ?_)
    | refine ops_fl rfl rfl rfl (fl_load_cp ti3 rfl rfl rfl rfl rfl rfl ?_)
    refine ops_fl rfl rfl rfl (fl_eql rfl rfl rfl ?_)
    refine ops_nil ?_
    refine seq_normal ?_
    refine runs_keep [8, 2, 1] rfl ?_
    apply runs_cut_o (ι := List ByteArray) (fun ah1 => []) (fun ah1 => [.cells [.own 1 1 (strs ah1)] 36, .row 9 1, .cells [.d (.v (.int .i64 k)), .d (.v (.string s)), .d (.sl 3 (lvls args))] 31]) [2, 1] (fun ah1 => ah1 = (if k = 4 then addName s ah else ah))
    case hk => exact rfl
    case h1 =>
      refine runs_cond rfl (fun h1 => ?_) (fun h1 => ?_)
      · try simp only [decide_eq_true_eq, decide_eq_false_iff_not, Bool.not_eq_true', Bool.not_eq_false', Bool.not_true, Bool.not_false, Int.not_lt, Int.not_le, Bool.and_eq_true, Bool.or_eq_true, Bool.and_eq_false_iff, Bool.or_eq_false_iff, Bool.false_eq_true, Bool.true_eq_false, not_true_eq_false, not_false_eq_true, decide_true, decide_false, true_and, and_true, false_and, and_false, true_or, or_true, false_or, or_false, Bool.true_and, Bool.false_and, Bool.and_true, Bool.and_false, Bool.true_or, Bool.false_or, Bool.or_true, Bool.or_false, Int.reduceEq, Int.reduceNe, Int.reduceLT, Int.reduceLE, Int.toNat_natCast, toNat_add1] at h1
        all_goals try (first | contradiction | (exfalso; omega))
        all_goals (
          refine runs_region ?_
          refine ops_fl rfl rfl rfl (fl_move rfl rfl ?_)
          first
          | refine ops_fl rfl rfl rfl (fl_field_blk ti31 rfl rfl rfl rfl ?_)
          | refine ops_fl rfl rfl rfl (fl_field_cp ti31 rfl rfl rfl rfl rfl ?_)
          first
          | refine ops_fl rfl rfl rfl (fl_load_blk ti9 rfl rfl rfl rfl rfl rfl rfl ?_)
          | refine ops_fl rfl rfl rfl (fl_load_cp ti9 rfl rfl rfl rfl rfl rfl ?_)
          refine ops_cons rfl (op_callc ca38 rfl rfl rfl rfl rfl rfl rfl rfl (put_spec s ah (by omega)) ([0, 1]) (.cons rfl (by first | exact .cells rfl (FitL.rfl _) | exact .row | exact .nrow | exact .mapI | exact .nnrow | (refine .cells rfl ?_; repeat (first | exact .nil | refine .cons (by first | exact .refl _ | exact .toD rfl | exact .nil rfl | exact .nilD) ?_))) (.cons rfl (by first | exact .cells rfl (FitL.rfl _) | exact .row | exact .nrow | exact .mapI | exact .nnrow | (refine .cells rfl ?_; repeat (first | exact .nil | refine .cons (by first | exact .refl _ | exact .toD rfl | exact .nil rfl | exact .nilD) ?_))) .nil)) rfl rfl rfl rfl (.cons (by first | exact .refl _ | exact .toD rfl | exact .nil rfl | exact .nilD | exact .dle rfl (by repeat' (first | exact DLe.refl _ | exact DLe.nil | exact DLeL.nil | exact DLeLL.nil | apply DLe.agg | apply DLe.tup | apply DLe.sl | apply DLe.cp | apply DLeL.cons | apply DLeLL.cons))) (.cons (by first | exact .refl _ | exact .toD rfl | exact .nil rfl | exact .nilD | exact .dle rfl (by repeat' (first | exact DLe.refl _ | exact DLe.nil | exact DLeL.nil | exact DLeLL.nil | apply DLe.agg | apply DLe.tup | apply DLe.sl | apply DLe.cp | apply DLeL.cons | apply DLeLL.cons))) .nil)) (fun s ob' hq => ?_) (fun s ob' hq => ?_))
          rotate_left
          · first | exact hq.elim | cases hq.1
          obtain ⟨hq1, rfl⟩ := hq
          cases hq1
          refine ⟨_, _, _, _, _, rfl, rfl, rfl, rfl, rfl, ?_⟩
          refine ops_nil ?_
          refine seq_back ?_
          refine back_i (addName s ah) rfl ?_ ?_
          · rw [if_pos h1]
          · refine meets_of rfl rfl rfl ?_ (.cons rfl (by first | exact .refl _ | exact .toD rfl | exact .nilD | exact Fit.of_eq rfl | exact .dle rfl (by repeat' (first | exact DLe.refl _ | exact DLe.nil | exact DLeL.nil | exact DLeLL.nil | apply DLe.agg | apply DLe.tup | apply DLe.sl | apply DLe.cp | apply DLeL.cons | apply DLeLL.cons))) (.cons rfl (by first | exact .refl _ | exact .toD rfl | exact .nilD | exact Fit.of_eq rfl | exact .dle rfl (by repeat' (first | exact DLe.refl _ | exact DLe.nil | exact DLeL.nil | exact DLeLL.nil | apply DLe.agg | apply DLe.tup | apply DLe.sl | apply DLe.cp | apply DLeL.cons | apply DLeLL.cons))) .nil))
            repeat (first | exact .nil | refine .cons rfl (.cells rfl (FitL.rfl _)) ?_ | refine .cons rfl (.cells rfl (by repeat (first | exact .nil | refine .cons (by first | exact .refl _ | exact .toD rfl | exact .nil rfl | exact .nilD | exact Fit.of_eq rfl) ?_))) ?_ | refine .cons rfl .row ?_ | refine .cons rfl .mapI ?_ | refine .cons rfl .nnrow ?_ | refine .cons rfl .nrow ?_ | refine .cons rfl .dead ?_)
        )
      · try simp only [decide_eq_true_eq, decide_eq_false_iff_not, Bool.not_eq_true', Bool.not_eq_false', Bool.not_true, Bool.not_false, Int.not_lt, Int.not_le, Bool.and_eq_true, Bool.or_eq_true, Bool.and_eq_false_iff, Bool.or_eq_false_iff, Bool.false_eq_true, Bool.true_eq_false, not_true_eq_false, not_false_eq_true, decide_true, decide_false, true_and, and_true, false_and, and_false, true_or, or_true, false_or, or_false, Bool.true_and, Bool.false_and, Bool.and_true, Bool.and_false, Bool.true_or, Bool.false_or, Bool.or_true, Bool.or_false, Int.reduceEq, Int.reduceNe, Int.reduceLT, Int.reduceLE, Int.toNat_natCast, toNat_add1] at h1
        all_goals try (first | contradiction | (exfalso; omega))
        all_goals (
          refine runs_skip ?_
          refine seq_back ?_
          refine back_i (ah) rfl ?_ ?_
          · rw [if_neg h1]
          · refine meets_of rfl rfl rfl ?_ (.cons rfl (by first | exact .refl _ | exact .toD rfl | exact .nilD | exact Fit.of_eq rfl | exact .dle rfl (by repeat' (first | exact DLe.refl _ | exact DLe.nil | exact DLeL.nil | exact DLeLL.nil | apply DLe.agg | apply DLe.tup | apply DLe.sl | apply DLe.cp | apply DLeL.cons | apply DLeLL.cons))) (.cons rfl (by first | exact .refl _ | exact .toD rfl | exact .nilD | exact Fit.of_eq rfl | exact .dle rfl (by repeat' (first | exact DLe.refl _ | exact DLe.nil | exact DLeL.nil | exact DLeLL.nil | apply DLe.agg | apply DLe.tup | apply DLe.sl | apply DLe.cp | apply DLeL.cons | apply DLeLL.cons))) .nil))
            repeat (first | exact .nil | refine .cons rfl (.cells rfl (FitL.rfl _)) ?_ | refine .cons rfl (.cells rfl (by repeat (first | exact .nil | refine .cons (by first | exact .refl _ | exact .toD rfl | exact .nil rfl | exact .nilD | exact Fit.of_eq rfl) ?_))) ?_ | refine .cons rfl .row ?_ | refine .cons rfl .mapI ?_ | refine .cons rfl .nnrow ?_ | refine .cons rfl .nrow ?_ | refine .cons rfl .dead ?_)
        )
    case h2 =>
      rintro ah1 hcut
      try dsimp only at hcut
      refine runs_keep [2, 1] rfl ?_
      refine runs_seq ?_
      refine runs_region ?_
      first
      | refine ops_fl rfl rfl rfl (fl_field_blk ti31 rfl rfl rfl rfl ?_)
      | refine ops_fl rfl rfl rfl (fl_field_cp ti31 rfl rfl rfl rfl rfl ?_)
      first
      | refine ops_fl rfl rfl rfl (fl_load_blk ti29 rfl rfl rfl rfl rfl rfl rfl ?_)
      | refine ops_fl rfl rfl rfl (fl_load_cp ti29 rfl rfl rfl rfl rfl rfl ?_)
      first
      | refine ops_fl rfl rfl rfl (fl_len us29 rfl rfl ?_)
      | refine ops_fl rfl rfl rfl (fl_len_own us29 rfl rfl ?_)
      | refine ops_fl rfl rfl rfl (fl_len_nil us29 rfl rfl ?_)
      refine ops_fl rfl rfl rfl (fl_move rfl rfl ?_)
      refine ops_nil ?_
      refine seq_normal ?_
      refine runs_block ?_
      refine runs_keep [16, 15, 14, 1] rfl ?_
      apply runs_loop_o (ι := Nat) (fun i => [(16, int i)]) (fun i => [.cells [.own 1 1 (strs (eachL (args.take i) ah1))] 36, .row 9 1, .cells [.d (.v (.int .i64 k)), .d (.v (.string s)), .d (.sl 3 (lvls args))] 31]) [15, 14, 1] (fun i => i ≤ args.length) (fun i => args.length - i) (0) ([0, 1, 2])
      case hk => exact rfl
      case hI =>
        exact Nat.zero_le _
      case hm =>
        refine meets_of rfl rfl rfl ?_ (.cons rfl (by first | exact .refl _ | exact .toD rfl | exact .nilD | exact Fit.of_eq rfl | exact .dle rfl (by repeat' (first | exact DLe.refl _ | exact DLe.nil | exact DLeL.nil | exact DLeLL.nil | apply DLe.agg | apply DLe.tup | apply DLe.sl | apply DLe.cp | apply DLeL.cons | apply DLeLL.cons))) (.cons rfl (by first | exact .refl _ | exact .toD rfl | exact .nilD | exact Fit.of_eq rfl | exact .dle rfl (by repeat' (first | exact DLe.refl _ | exact DLe.nil | exact DLeL.nil | exact DLeLL.nil | apply DLe.agg | apply DLe.tup | apply DLe.sl | apply DLe.cp | apply DLeL.cons | apply DLeLL.cons))) (.cons rfl (by first | exact .refl _ | exact .toD rfl | exact .nilD | exact Fit.of_eq rfl | exact .dle rfl (by repeat' (first | exact DLe.refl _ | exact DLe.nil | exact DLeL.nil | exact DLeLL.nil | apply DLe.agg | apply DLe.tup | apply DLe.sl | apply DLe.cp | apply DLeL.cons | apply DLeLL.cons))) (.cons rfl (by first | exact .refl _ | exact .toD rfl | exact .nilD | exact Fit.of_eq rfl | exact .dle rfl (by repeat' (first | exact DLe.refl _ | exact DLe.nil | exact DLeL.nil | exact DLeLL.nil | apply DLe.agg | apply DLe.tup | apply DLe.sl | apply DLe.cp | apply DLeL.cons | apply DLeLL.cons))) .nil))))
        repeat (first | exact .nil | refine .cons rfl (.cells rfl (FitL.rfl _)) ?_ | refine .cons rfl (.cells rfl (by repeat (first | exact .nil | refine .cons (by first | exact .refl _ | exact .toD rfl | exact .nil rfl | exact .nilD | exact Fit.of_eq rfl) ?_))) ?_ | refine .cons rfl .row ?_ | refine .cons rfl .mapI ?_ | refine .cons rfl .nnrow ?_ | refine .cons rfl .nrow ?_ | refine .cons rfl .dead ?_)
      case h =>
        rintro i hinv
        try dsimp only at hinv
        refine runs_keep [16, 15, 14, 1] rfl ?_
        refine runs_seq ?_
        refine runs_region ?_
        refine ops_fl rfl rfl rfl (fl_lss rfl rfl rfl ?_)
        refine ops_nil ?_
        refine seq_normal ?_
        refine runs_seq ?_
        refine runs_cond rfl (fun h4 => ?_) (fun h4 => ?_)
        · try simp only [decide_eq_true_eq, decide_eq_false_iff_not, Bool.not_eq_true', Bool.not_eq_false', Bool.not_true, Bool.not_false, Int.not_lt, Int.not_le, Bool.and_eq_true, Bool.or_eq_true, Bool.and_eq_false_iff, Bool.or_eq_false_iff, Bool.false_eq_true, Bool.true_eq_false, not_true_eq_false, not_false_eq_true, decide_true, decide_false, true_and, and_true, false_and, and_false, true_or, or_true, false_or, or_false, Bool.true_and, Bool.false_and, Bool.and_true, Bool.and_false, Bool.true_or, Bool.false_or, Bool.or_true, Bool.or_false, Int.reduceEq, Int.reduceNe, Int.reduceLT, Int.reduceLE, Int.toNat_natCast, toNat_add1] at h4
          all_goals try (first | contradiction | (exfalso; omega))
          all_goals (
            refine runs_skip ?_
            refine seq_normal ?_
            refine runs_seq ?_
            refine runs_block ?_
            refine runs_seq ?_
            obtain ⟨k', s', a', hget⟩ := lvl_get (show i < args.length by omega)
            have hsz' := size_get hget
            have hlt := eachL_len (args.take i) ah1
            have hst := sizes_take hget
            have hsl := sizes_take_le args (i + 1)
            have hah1 : ah1.length ≤ ah.length + 1 := by rw [hcut]; split <;> omega
            refine runs_region ?_
            first
            | refine ops_fl rfl rfl rfl (fl_index us29 te29 rfl rfl rfl rfl rfl (by omega) (lvl_at hget) ?_)
            | refine ops_fl rfl rfl rfl (fl_index_own us29 te29 rfl rfl rfl rfl rfl (by omega) (lvl_at hget) ?_)
            first
            | refine ops_fl rfl rfl rfl (fl_load_blk ti31 rfl rfl rfl rfl rfl rfl rfl ?_)
            | refine ops_fl rfl rfl rfl (fl_load_cp ti31 rfl rfl rfl rfl rfl rfl ?_)
            | refine ops_fl rfl rfl rfl (fl_load_all ti31 rfl rfl rfl rfl (by first | rfl | exact Lvl.cells_len _) ?_)
            refine ops_cons (T := fun _ => False) rfl (op_alloc ti31 rfl rfl rfl rfl rfl (by simp only [List.length_cons, List.length_nil, Nat.reduceAdd]; rfl) rfl ?_)
            refine ops_cons rfl (op_store ti31 rfl rfl rfl rfl rfl rfl rfl rfl rfl rfl rfl ?_)
            refine ops_nil ?_
            refine seq_normal ?_
            refine runs_region ?_
            first
            | refine ops_fl rfl rfl rfl (fl_load_blk ti31 rfl rfl rfl rfl rfl rfl rfl ?_)
            | refine ops_fl rfl rfl rfl (fl_load_cp ti31 rfl rfl rfl rfl rfl rfl ?_)
            | refine ops_fl rfl rfl rfl (fl_load_all ti31 rfl rfl rfl rfl (by first | rfl | exact Lvl.cells_len _) ?_)
            refine ops_fl rfl rfl rfl (fl_move rfl rfl ?_)
            refine ops_cons rfl (op_callo ca37 rfl rfl rfl rfl (ih k' s' a' (eachL (args.take i) ah1) (by omega) (by omega)) [0, 1] (.cons rfl (by first | exact .cells rfl (FitL.rfl _) | exact .row | exact .nrow | exact .mapI | exact .nnrow | (refine .cells rfl ?_; repeat (first | exact .nil | refine .cons (by first | exact .refl _ | exact .toD rfl | exact .nil rfl | exact .nilD) ?_))) (.cons rfl (by first | exact .cells rfl (FitL.rfl _) | exact .row | exact .nrow | exact .mapI | exact .nnrow | (refine .cells rfl ?_; repeat (first | exact .nil | refine .cons (by first | exact .refl _ | exact .toD rfl | exact .nil rfl | exact .nilD) ?_))) .nil)) rfl rfl rfl rfl (.cons (by first | exact .refl _ | exact .toD rfl | exact .nil rfl | exact .nilD | exact .dle rfl (by repeat' (first | exact DLe.refl _ | exact DLe.nil | exact DLeL.nil | exact DLeLL.nil | apply DLe.agg | apply DLe.tup | apply DLe.sl | apply DLe.cp | apply DLeL.cons | apply DLeLL.cons))) (.cons (by first | exact .refl _ | exact .toD rfl | exact .nil rfl | exact .nilD | exact .dle rfl (by repeat' (first | exact DLe.refl _ | exact DLe.nil | exact DLeL.nil | exact DLeLL.nil | apply DLe.agg | apply DLe.tup | apply DLe.sl | apply DLe.cp | apply DLeL.cons | apply DLeLL.cons))) .nil)) (fun s ob' hq => ?_) (fun s ob' hq => ?_))
            rotate_left
            · first | exact hq.elim | cases hq.1
            obtain ⟨hq1, rfl⟩ := hq
            cases hq1
            rw [← eachL_take hget]; refine ⟨_, _, _, _, _, rfl, rfl, rfl, rfl, rfl, ?_⟩
            refine ops_nil ?_
            refine inb_normal ?_
            refine seq_normal ?_
            refine runs_keep [16, 15, 14, 1] rfl ?_
            refine runs_region ?_
            refine ops_fl rfl rfl rfl (fl_add rfl rfl rfl (by omega) ?_)
            refine ops_fl rfl rfl rfl (fl_move rfl rfl ?_)
            refine ops_nil ?_
            refine seq_back ?_
            refine back_c (i + 1) rfl ?_ ([0, 1, 2]) ?_
            · exact ⟨by omega, by omega⟩
            · refine meets_of rfl rfl rfl ?_ (.cons rfl (by first | exact .refl _ | exact .toD rfl | exact .nilD | exact Fit.of_eq rfl | exact .dle rfl (by repeat' (first | exact DLe.refl _ | exact DLe.nil | exact DLeL.nil | exact DLeLL.nil | apply DLe.agg | apply DLe.tup | apply DLe.sl | apply DLe.cp | apply DLeL.cons | apply DLeLL.cons))) (.cons rfl (by first | exact .refl _ | exact .toD rfl | exact .nilD | exact Fit.of_eq rfl | exact .dle rfl (by repeat' (first | exact DLe.refl _ | exact DLe.nil | exact DLeL.nil | exact DLeLL.nil | apply DLe.agg | apply DLe.tup | apply DLe.sl | apply DLe.cp | apply DLeL.cons | apply DLeLL.cons))) (.cons rfl (by first | exact .refl _ | exact .toD rfl | exact .nilD | exact Fit.of_eq rfl | exact .dle rfl (by repeat' (first | exact DLe.refl _ | exact DLe.nil | exact DLeL.nil | exact DLeLL.nil | apply DLe.agg | apply DLe.tup | apply DLe.sl | apply DLe.cp | apply DLeL.cons | apply DLeLL.cons))) (.cons rfl (by first | exact .refl _ | exact .toD rfl | exact .nilD | exact Fit.of_eq rfl | exact .dle rfl (by repeat' (first | exact DLe.refl _ | exact DLe.nil | exact DLeL.nil | exact DLeLL.nil | apply DLe.agg | apply DLe.tup | apply DLe.sl | apply DLe.cp | apply DLeL.cons | apply DLeLL.cons))) .nil))))
              repeat (first | exact .nil | refine .cons rfl (.cells rfl (FitL.rfl _)) ?_ | refine .cons rfl (.cells rfl (by repeat (first | exact .nil | refine .cons (by first | exact .refl _ | exact .toD rfl | exact .nil rfl | exact .nilD | exact Fit.of_eq rfl) ?_))) ?_ | refine .cons rfl .row ?_ | refine .cons rfl .mapI ?_ | refine .cons rfl .nnrow ?_ | refine .cons rfl .nrow ?_ | refine .cons rfl .dead ?_)
          )
        · try simp only [decide_eq_true_eq, decide_eq_false_iff_not, Bool.not_eq_true', Bool.not_eq_false', Bool.not_true, Bool.not_false, Int.not_lt, Int.not_le, Bool.and_eq_true, Bool.or_eq_true, Bool.and_eq_false_iff, Bool.or_eq_false_iff, Bool.false_eq_true, Bool.true_eq_false, not_true_eq_false, not_false_eq_true, decide_true, decide_false, true_and, and_true, false_and, and_false, true_or, or_true, false_or, or_false, Bool.true_and, Bool.false_and, Bool.and_true, Bool.and_false, Bool.true_or, Bool.false_or, Bool.or_true, Bool.or_false, Int.reduceEq, Int.reduceNe, Int.reduceLT, Int.reduceLE, Int.toNat_natCast, toNat_add1] at h4
          all_goals try (first | contradiction | (exfalso; omega))
          all_goals (
            refine runs_exit ?_
            refine seq_exit ?_
            refine seq_exit ?_
            refine inb_exit ?_
            refine fin_normal ?_
            refine fin_od (l := []) rfl rfl ([0, 1]) ([.cells [.own 1 1 (strs (eachL (args.take i) ah1))] 36, .row 9 1]) rfl rfl rfl ?_ ?_
            · repeat (first | exact .nil | refine .cons rfl (.cells rfl (FitL.rfl _)) ?_ | refine .cons rfl .row ?_ | refine .cons rfl .mapI ?_ | refine .cons rfl .nnrow ?_ | refine .cons rfl .nrow ?_ | refine .cons rfl .dead ?_ | refine .cons rfl (.cells rfl ?_) ?_ | refine .cons (by first | exact .refl _ | exact .toD rfl | exact .nilD) ?_)
            · refine ⟨rfl, ?_⟩; rw [List.take_of_length_le (by omega), hcut]; rfl
          )
end Go.Proofs.YtafhnnbbfgoacaaDoor
