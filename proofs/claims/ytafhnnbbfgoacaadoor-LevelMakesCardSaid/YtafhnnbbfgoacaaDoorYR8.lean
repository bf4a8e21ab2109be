/-
  What is proved here: contracts of the program's functions on levels: Worth, Subst, and of slices.Index, slices.Contains.
-/
import Derived.Test.YtafhnnbbfgoacaaDoorYR3
set_option linter.unusedSimpArgs false
set_option linter.unusedVariables false
namespace Go.Proofs.YtafhnnbbfgoacaaDoor
open Go Go.Vd Go.RowKit
attribute [local irreducible] Runs OpsR OpR FloatR AnyR
variable {gl : Nat → List D}

/-- the place of a text, or -1 -/
def idxI (ps : List ByteArray) (s : ByteArray) : Int := match ps.findIdx? (· = s) with
  | some i => i
  | none => -1
theorem idxI_some {ps : List ByteArray} {s : ByteArray} {i : Nat} (h : i < ps.length) (h1 : s ∉ ps.take i) (h2 : ps[i] = s) : idxI ps s = i := by
  unfold idxI; rw [findIdx_some h h1 h2]
theorem idxI_none {ps : List ByteArray} {s : ByteArray} (h : s ∉ ps) : idxI ps s = -1 := by
  unfold idxI; rw [findIdx_none h]
theorem idxI_case (ps : List ByteArray) (s : ByteArray) : (s ∉ ps ∧ idxI ps s = -1) ∨ ∃ i, ∃ h : i < ps.length, s ∉ ps.take i ∧ ps[i] = s ∧ idxI ps s = i := by
  by_cases hm : s ∈ ps
  · right
    have h0 : (ps.findIdx? (· = s)).isSome = true := by rw [List.findIdx?_isSome]; simpa using hm
    obtain ⟨i, hi⟩ := Option.isSome_iff_exists.1 h0
    obtain ⟨h1, h2, h3⟩ := List.findIdx?_eq_some_iff_getElem.1 hi
    refine ⟨i, h1, fun hc => ?_, by simpa using h2, by unfold idxI; rw [hi]⟩
    obtain ⟨j, hj, e⟩ := List.mem_iff_getElem.1 hc
    simp only [List.length_take] at hj
    have := h3 j (by omega)
    simp only [List.getElem_take] at e
    simp [e] at this
  · exact .inl ⟨hm, idxI_none hm⟩

theorem index_spec (ps : List ByteArray) (s : ByteArray) (hl : ps.length ≤ 281474976710656) :
    TriD Tryd.prog gl 28 [strsD ps, .v (.string s)] (· = .v (.int .i64 (idxI ps s))) := by
  have hlp := strs_len ps
  refine triD_of_runs Tryd.func28 rfl Tryd.ntmps28 (rs := [.tmp 4]) rfl rfl rfl ?_
  refine runs_seq ?_
  refine runs_region ?_
  refine ops_fl rfl rfl rfl (fl_assign rfl rfl ?_)
  refine ops_nil ?_
  refine seq_normal ?_
  refine runs_seq ?_
  refine runs_seq ?_
  refine runs_region ?_
  refine ops_fl rfl rfl rfl (fl_move rfl rfl ?_)
  first
  | refine ops_fl rfl rfl rfl (fl_len us36 rfl rfl ?_)
  | refine ops_fl rfl rfl rfl (fl_len_own us36 rfl rfl ?_)
  | refine ops_fl rfl rfl rfl (fl_len_nil us36 rfl rfl ?_)
  refine ops_fl rfl rfl rfl (fl_move rfl rfl ?_)
  refine ops_nil ?_
  refine seq_normal ?_
  refine runs_block ?_
  refine runs_keep [8, 7, 0, 1] rfl ?_
  apply runs_loop_c (ι := Nat) (fun i => [(8, int i)]) [7, 0, 1] (fun i => i ≤ ps.length ∧ s ∉ ps.take i) (fun i => ps.length - i) (0)
  case hk => exact rfl
  case hI =>
    exact ⟨Nat.zero_le _, by simp⟩
  case hm =>
    refine meets_of rfl rfl rfl ?_ (.cons rfl (by first | exact .refl _ | exact .toD rfl | exact .nilD | exact Fit.of_eq rfl | exact .dle rfl (by repeat' (first | exact DLe.refl _ | exact DLe.nil | exact DLeL.nil | exact DLeLL.nil | apply DLe.agg | apply DLe.tup | apply DLe.sl | apply DLe.cp | apply DLeL.cons | apply DLeLL.cons))) (.cons rfl (by first | exact .refl _ | exact .toD rfl | exact .nilD | exact Fit.of_eq rfl | exact .dle rfl (by repeat' (first | exact DLe.refl _ | exact DLe.nil | exact DLeL.nil | exact DLeLL.nil | apply DLe.agg | apply DLe.tup | apply DLe.sl | apply DLe.cp | apply DLeL.cons | apply DLeLL.cons))) (.cons rfl (by first | exact .refl _ | exact .toD rfl | exact .nilD | exact Fit.of_eq rfl | exact .dle rfl (by repeat' (first | exact DLe.refl _ | exact DLe.nil | exact DLeL.nil | exact DLeLL.nil | apply DLe.agg | apply DLe.tup | apply DLe.sl | apply DLe.cp | apply DLeL.cons | apply DLeLL.cons))) (.cons rfl (by first | exact .refl _ | exact .toD rfl | exact .nilD | exact Fit.of_eq rfl | exact .dle rfl (by repeat' (first | exact DLe.refl _ | exact DLe.nil | exact DLeL.nil | exact DLeLL.nil | apply DLe.agg | apply DLe.tup | apply DLe.sl | apply DLe.cp | apply DLeL.cons | apply DLeLL.cons))) .nil))))
    repeat (first | exact .nil | refine .cons rfl (.cells rfl (FitL.rfl _)) ?_ | refine .cons rfl (.cells rfl (by repeat (first | exact .nil | refine .cons (by first | exact .refl _ | exact .toD rfl | exact .nil rfl | exact .nilD | exact Fit.of_eq rfl) ?_))) ?_ | refine .cons rfl .row ?_ | refine .cons rfl .mapI ?_ | refine .cons rfl .nnrow ?_ | refine .cons rfl .nrow ?_ | refine .cons rfl .dead ?_)
  case h =>
    rintro i hinv
    try dsimp only at hinv
    refine runs_keep [8, 7, 0, 1] rfl ?_
    refine runs_seq ?_
    refine runs_region ?_
    refine ops_fl rfl rfl rfl (fl_lss rfl rfl rfl ?_)
    refine ops_nil ?_
    refine seq_normal ?_
    refine runs_seq ?_
    refine runs_cond rfl (fun h2 => ?_) (fun h2 => ?_)
    · try simp only [decide_eq_true_eq, decide_eq_false_iff_not, Bool.not_eq_true', Bool.not_eq_false', Bool.not_true, Bool.not_false, Int.not_lt, Int.not_le, Bool.and_eq_true, Bool.or_eq_true, Bool.and_eq_false_iff, Bool.or_eq_false_iff, Bool.false_eq_true, Bool.true_eq_false, not_true_eq_false, not_false_eq_true, decide_true, decide_false, true_and, and_true, false_and, and_false, true_or, or_true, false_or, or_false, Bool.true_and, Bool.false_and, Bool.and_true, Bool.and_false, Bool.true_or, Bool.false_or, Bool.or_true, Bool.or_false, Int.reduceEq, Int.reduceNe, Int.reduceLT, Int.reduceLE, Int.toNat_natCast, toNat_add1] at h2
      all_goals try (first | contradiction | (exfalso; omega))
      all_goals (
        refine runs_skip ?_
        refine seq_normal ?_
        refine runs_seq ?_
        refine runs_block ?_
        refine runs_seq ?_
        refine runs_region ?_
        refine ops_fl rfl rfl rfl (fl_move rfl rfl ?_)
        refine ops_fl rfl rfl rfl (fl_assign rfl rfl ?_)
        refine ops_nil ?_
        refine seq_normal ?_
        refine runs_seq ?_
        refine runs_region ?_
        refine ops_fl rfl rfl rfl (fl_move rfl rfl ?_)
        refine ops_fl rfl rfl rfl (fl_move rfl rfl ?_)
        refine ops_fl rfl rfl rfl (fl_move rfl rfl ?_)
        first
        | refine ops_fl rfl rfl rfl (fl_index us36 te36 rfl rfl rfl rfl rfl (by omega) (str_at (by omega)) ?_)
        | refine ops_fl rfl rfl rfl (fl_index_own us36 te36 rfl rfl rfl rfl rfl (by omega) (str_at (by omega)) ?_)
        first
        | refine ops_fl rfl rfl rfl (fl_load_blk ti9 rfl rfl rfl rfl rfl rfl rfl ?_)
        | refine ops_fl rfl rfl rfl (fl_load_cp ti9 rfl rfl rfl rfl rfl rfl ?_)
        refine ops_fl rfl rfl rfl (fl_seql rfl rfl rfl ?_)
        refine ops_nil ?_
        refine seq_normal ?_
        refine runs_cond rfl (fun h4 => ?_) (fun h4 => ?_)
        · try simp only [decide_eq_true_eq, decide_eq_false_iff_not, Bool.not_eq_true', Bool.not_eq_false', Bool.not_true, Bool.not_false, Int.not_lt, Int.not_le, Bool.and_eq_true, Bool.or_eq_true, Bool.and_eq_false_iff, Bool.or_eq_false_iff, Bool.false_eq_true, Bool.true_eq_false, not_true_eq_false, not_false_eq_true, decide_true, decide_false, true_and, and_true, false_and, and_false, true_or, or_true, false_or, or_false, Bool.true_and, Bool.false_and, Bool.and_true, Bool.and_false, Bool.true_or, Bool.false_or, Bool.or_true, Bool.or_false, Int.reduceEq, Int.reduceNe, Int.reduceLT, Int.reduceLE, Int.toNat_natCast, toNat_add1] at h4
          all_goals try (first | contradiction | (exfalso; omega))
          all_goals (
            refine runs_seq ?_
            refine runs_keep [5] rfl ?_
            refine runs_region ?_
            refine ops_fl rfl rfl rfl (fl_move rfl rfl ?_)
            refine ops_fl rfl rfl rfl (fl_assign rfl rfl ?_)
            refine ops_nil ?_
            refine seq_normal ?_
            refine runs_ret ?_
            refine inb_ret ?_
            refine seq_ret ?_
            refine seq_ret ?_
            refine inb_ret ?_
            refine seq_ret ?_
            refine fin_ret ?_
            refine fin_d1 rfl rfl ?_
            rw [idxI_some (show i < ps.length by omega) hinv.2 h4.symm]
          )
        · try simp only [decide_eq_true_eq, decide_eq_false_iff_not, Bool.not_eq_true', Bool.not_eq_false', Bool.not_true, Bool.not_false, Int.not_lt, Int.not_le, Bool.and_eq_true, Bool.or_eq_true, Bool.and_eq_false_iff, Bool.or_eq_false_iff, Bool.false_eq_true, Bool.true_eq_false, not_true_eq_false, not_false_eq_true, decide_true, decide_false, true_and, and_true, false_and, and_false, true_or, or_true, false_or, or_false, Bool.true_and, Bool.false_and, Bool.and_true, Bool.and_false, Bool.true_or, Bool.false_or, Bool.or_true, Bool.or_false, Int.reduceEq, Int.reduceNe, Int.reduceLT, Int.reduceLE, Int.toNat_natCast, toNat_add1] at h4
          all_goals try (first | contradiction | (exfalso; omega))
          all_goals (
            refine runs_skip ?_
            refine inb_normal ?_
            refine seq_normal ?_
            refine runs_keep [8, 7, 0, 1] rfl ?_
            refine runs_region ?_
            refine ops_fl rfl rfl rfl (fl_add rfl rfl rfl (by omega) ?_)
            refine ops_fl rfl rfl rfl (fl_move rfl rfl ?_)
            refine ops_nil ?_
            refine seq_back ?_
            refine back_i (i + 1) rfl ?_ ?_
            · exact ⟨⟨by omega, not_mem_take_succ (by omega) hinv.2 (fun e => h4 e.symm)⟩, by omega⟩
            · refine meets_of rfl rfl rfl ?_ (.cons rfl (by first | exact .refl _ | exact .toD rfl | exact .nilD | exact Fit.of_eq rfl | exact .dle rfl (by repeat' (first | exact DLe.refl _ | exact DLe.nil | exact DLeL.nil | exact DLeLL.nil | apply DLe.agg | apply DLe.tup | apply DLe.sl | apply DLe.cp | apply DLeL.cons | apply DLeLL.cons))) (.cons rfl (by first | exact .refl _ | exact .toD rfl | exact .nilD | exact Fit.of_eq rfl | exact .dle rfl (by repeat' (first | exact DLe.refl _ | exact DLe.nil | exact DLeL.nil | exact DLeLL.nil | apply DLe.agg | apply DLe.tup | apply DLe.sl | apply DLe.cp | apply DLeL.cons | apply DLeLL.cons))) (.cons rfl (by first | exact .refl _ | exact .toD rfl | exact .nilD | exact Fit.of_eq rfl | exact .dle rfl (by repeat' (first | exact DLe.refl _ | exact DLe.nil | exact DLeL.nil | exact DLeLL.nil | apply DLe.agg | apply DLe.tup | apply DLe.sl | apply DLe.cp | apply DLeL.cons | apply DLeLL.cons))) (.cons rfl (by first | exact .refl _ | exact .toD rfl | exact .nilD | exact Fit.of_eq rfl | exact .dle rfl (by repeat' (first | exact DLe.refl _ | exact DLe.nil | exact DLeL.nil | exact DLeLL.nil | apply DLe.agg | apply DLe.tup | apply DLe.sl | apply DLe.cp | apply DLeL.cons | apply DLeLL.cons))) .nil))))
              repeat (first | exact .nil | refine .cons rfl (.cells rfl (FitL.rfl _)) ?_ | refine .cons rfl (.cells rfl (by repeat (first | exact .nil | refine .cons (by first | exact .refl _ | exact .toD rfl | exact .nil rfl | exact .nilD | exact Fit.of_eq rfl) ?_))) ?_ | refine .cons rfl .row ?_ | refine .cons rfl .mapI ?_ | refine .cons rfl .nnrow ?_ | refine .cons rfl .nrow ?_ | refine .cons rfl .dead ?_)
          )
      )
    · try simp only [decide_eq_true_eq, decide_eq_false_iff_not, Bool.not_eq_true', Bool.not_eq_false', Bool.not_true, Bool.not_false, Int.not_lt, Int.not_le, Bool.and_eq_true, Bool.or_eq_true, Bool.and_eq_false_iff, Bool.or_eq_false_iff, Bool.false_eq_true, Bool.true_eq_false, not_true_eq_false, not_false_eq_true, decide_true, decide_false, true_and, and_true, false_and, and_false, true_or, or_true, false_or, or_false, Bool.true_and, Bool.false_and, Bool.and_true, Bool.and_false, Bool.true_or, Bool.false_or, Bool.or_true, Bool.or_false, Int.reduceEq, Int.reduceNe, Int.reduceLT, Int.reduceLE, Int.toNat_natCast, toNat_add1] at h2
      all_goals try (first | contradiction | (exfalso; omega))
      all_goals (
        refine runs_exit ?_
        refine seq_exit ?_
        refine seq_exit ?_
        refine inb_exit ?_
        refine seq_normal ?_
        refine runs_seq ?_
        refine runs_keep [] rfl ?_
        refine runs_region ?_
        refine ops_fl rfl rfl rfl (fl_assign rfl rfl ?_)
        refine ops_nil ?_
        refine seq_normal ?_
        refine runs_ret ?_
        refine fin_ret ?_
        refine fin_d1 rfl rfl ?_
        have h := hinv.2
        rw [List.take_of_length_le (by omega)] at h
        rw [idxI_none h]
      )

theorem contains_spec (ps : List ByteArray) (s : ByteArray) (hl : ps.length ≤ 281474976710656) :
    TriD Tryd.prog gl 39 [strsD ps, .v (.string s)] (· = .v (.bool (memB s ps))) := by
  refine triD_of_runs Tryd.func39 rfl Tryd.ntmps39 (rs := [.tmp 4]) rfl rfl rfl ?_
  refine runs_seq ?_
  refine runs_region ?_
  refine ops_fl rfl rfl rfl (fl_assign rfl rfl ?_)
  refine ops_nil ?_
  refine seq_normal ?_
  refine runs_seq ?_
  refine runs_region ?_
  refine ops_fl rfl rfl rfl (fl_move rfl rfl ?_)
  refine ops_fl rfl rfl rfl (fl_move rfl rfl ?_)
  refine ops_cons (T := fun _ => False) rfl (op_call ca28 rfl rfl rfl rfl (index_spec ps s hl) (.cons (by first | exact .refl _ | exact .toD rfl | exact .nilD | exact .dle rfl (by repeat' (first | exact DLe.refl _ | exact DLe.nil | exact DLeL.nil | exact DLeLL.nil | apply DLe.agg | apply DLe.tup | apply DLe.sl | apply DLe.cp | apply DLeL.cons | apply DLeLL.cons))) (.cons (by first | exact .refl _ | exact .toD rfl | exact .nilD | exact .dle rfl (by repeat' (first | exact DLe.refl _ | exact DLe.nil | exact DLeL.nil | exact DLeLL.nil | apply DLe.agg | apply DLe.tup | apply DLe.sl | apply DLe.cp | apply DLeL.cons | apply DLeLL.cons))) .nil)) (fun d hd => ?_))
  obtain rfl := hd
  refine ops_fl rfl rfl rfl (fl_geq rfl rfl rfl ?_)
  refine ops_fl rfl rfl rfl (fl_assign rfl rfl ?_)
  refine ops_nil ?_
  refine seq_normal ?_
  refine runs_ret ?_
  refine fin_ret ?_
  refine fin_d1 rfl rfl ?_
  rcases idxI_case ps s with ⟨h1, h2⟩ | ⟨i, h0, h1, h2, h3⟩
  · rw [memB_false h1, h2]; rfl
  · rw [memB_iff.2 (h2 ▸ List.getElem_mem h0), h3]; simp

theorem pworth_spec (ps : List ByteArray) (ns : List Int) (hl : ps.length ≤ ns.length) (hl2 : ps.length ≤ 281474976710656) (hB : ∀ n ∈ ns, -1099511627776 ≤ n ∧ n ≤ 1099511627776) : ∀ x : Lev, x.size ≤ 1073741824 →
    TriD Tryd.prog gl 12 [x.toLvl.d, strsD ps, intsD ns] (· = .v (.int .i64 (x.worth (pval ps ns)))) := by
  have hlp := strs_len ps
  have hln := ints_len ns
  have hbd : ∀ x : Lev, -1099511627776 ≤ x.worth (pval ps ns) ∧ x.worth (pval ps ns) ≤ 1099511627776 + x.size := fun x => x.worth_bound (by omega) fun s => pval_bound (by omega) hB
  intro x
  induction x with
  | zero =>
    intro hsz
    refine triD_of_runs Tryd.func12 rfl Tryd.ntmps12 (rs := [.tmp 6]) rfl rfl rfl ?_
    refine runs_seq ?_
    refine runs_region ?_
    refine ops_cons (T := fun _ => False) rfl (op_box ti31 rfl rfl rfl rfl rfl (by simp only [List.length_cons, List.length_nil, Nat.reduceAdd]; rfl) rfl ?_)
    refine ops_fl rfl rfl rfl (fl_assign rfl rfl ?_)
    refine ops_nil ?_
    refine seq_normal ?_
    refine runs_seq ?_
    refine runs_seq ?_
    refine runs_region ?_
    first
    | refine ops_fl rfl rfl rfl (fl_field_blk ti31 rfl rfl rfl rfl ?_)
    | refine ops_fl rfl rfl rfl (fl_field_cp ti31 rfl rfl rfl rfl rfl ?_)
    first
    | refine ops_fl rfl rfl rfl (fl_load_blk ti3 rfl rfl rfl rfl rfl rfl rfl ?_)
    | refine ops_fl rfl rfl rfl (fl_load_cp ti3 rfl rfl rfl rfl rfl rfl ?_)
    refine ops_nil ?_
    refine seq_normal ?_
    refine runs_block ?_
    refine runs_seq ?_
    refine runs_region ?_
    refine ops_fl rfl rfl rfl (fl_eql rfl rfl rfl ?_)
    refine ops_fl rfl rfl rfl (fl_assign rfl rfl ?_)
    refine ops_nil ?_
    refine seq_normal ?_
    refine runs_cond rfl (fun h2 => ?_) (fun h2 => ?_)
    · try simp only [decide_eq_true_eq, decide_eq_false_iff_not, Bool.not_eq_true', Bool.not_eq_false', Bool.not_true, Bool.not_false, Int.not_lt, Int.not_le, Bool.and_eq_true, Bool.or_eq_true, Bool.and_eq_false_iff, Bool.or_eq_false_iff, Bool.false_eq_true, Bool.true_eq_false, not_true_eq_false, not_false_eq_true, decide_true, decide_false, true_and, and_true, false_and, and_false, true_or, or_true, false_or, or_false, Bool.true_and, Bool.false_and, Bool.and_true, Bool.and_false, Bool.true_or, Bool.false_or, Bool.or_true, Bool.or_false, Int.reduceEq, Int.reduceNe, Int.reduceLT, Int.reduceLE, Int.toNat_natCast, toNat_add1] at h2
      all_goals (first | contradiction | (exfalso; omega) | (exfalso; simp_all))
    · try simp only [decide_eq_true_eq, decide_eq_false_iff_not, Bool.not_eq_true', Bool.not_eq_false', Bool.not_true, Bool.not_false, Int.not_lt, Int.not_le, Bool.and_eq_true, Bool.or_eq_true, Bool.and_eq_false_iff, Bool.or_eq_false_iff, Bool.false_eq_true, Bool.true_eq_false, not_true_eq_false, not_false_eq_true, decide_true, decide_false, true_and, and_true, false_and, and_false, true_or, or_true, false_or, or_false, Bool.true_and, Bool.false_and, Bool.and_true, Bool.and_false, Bool.true_or, Bool.false_or, Bool.or_true, Bool.or_false, Int.reduceEq, Int.reduceNe, Int.reduceLT, Int.reduceLE, Int.toNat_natCast, toNat_add1] at h2
      all_goals try (first | contradiction | (exfalso; omega))
      all_goals (
        refine runs_seq ?_
        refine runs_keep [10, 3, 1, 2] rfl ?_
        refine runs_region ?_
        refine ops_fl rfl rfl rfl (fl_eql rfl rfl rfl ?_)
        refine ops_fl rfl rfl rfl (fl_assign rfl rfl ?_)
        refine ops_nil ?_
        refine seq_normal ?_
        refine runs_cond rfl (fun h4 => ?_) (fun h4 => ?_)
        · try simp only [decide_eq_true_eq, decide_eq_false_iff_not, Bool.not_eq_true', Bool.not_eq_false', Bool.not_true, Bool.not_false, Int.not_lt, Int.not_le, Bool.and_eq_true, Bool.or_eq_true, Bool.and_eq_false_iff, Bool.or_eq_false_iff, Bool.false_eq_true, Bool.true_eq_false, not_true_eq_false, not_false_eq_true, decide_true, decide_false, true_and, and_true, false_and, and_false, true_or, or_true, false_or, or_false, Bool.true_and, Bool.false_and, Bool.and_true, Bool.and_false, Bool.true_or, Bool.false_or, Bool.or_true, Bool.or_false, Int.reduceEq, Int.reduceNe, Int.reduceLT, Int.reduceLE, Int.toNat_natCast, toNat_add1] at h4
          all_goals (first | contradiction | (exfalso; omega) | (exfalso; simp_all))
        · try simp only [decide_eq_true_eq, decide_eq_false_iff_not, Bool.not_eq_true', Bool.not_eq_false', Bool.not_true, Bool.not_false, Int.not_lt, Int.not_le, Bool.and_eq_true, Bool.or_eq_true, Bool.and_eq_false_iff, Bool.or_eq_false_iff, Bool.false_eq_true, Bool.true_eq_false, not_true_eq_false, not_false_eq_true, decide_true, decide_false, true_and, and_true, false_and, and_false, true_or, or_true, false_or, or_false, Bool.true_and, Bool.false_and, Bool.and_true, Bool.and_false, Bool.true_or, Bool.false_or, Bool.or_true, Bool.or_false, Int.reduceEq, Int.reduceNe, Int.reduceLT, Int.reduceLE, Int.toNat_natCast, toNat_add1] at h4
          all_goals try (first | contradiction | (exfalso; omega))
          all_goals (
            refine runs_seq ?_
            refine runs_region ?_
            refine ops_fl rfl rfl rfl (fl_eql rfl rfl rfl ?_)
            refine ops_fl rfl rfl rfl (fl_assign rfl rfl ?_)
            refine ops_nil ?_
            refine seq_normal ?_
            refine runs_cond rfl (fun h6 => ?_) (fun h6 => ?_)
            · try simp only [decide_eq_true_eq, decide_eq_false_iff_not, Bool.not_eq_true', Bool.not_eq_false', Bool.not_true, Bool.not_false, Int.not_lt, Int.not_le, Bool.and_eq_true, Bool.or_eq_true, Bool.and_eq_false_iff, Bool.or_eq_false_iff, Bool.false_eq_true, Bool.true_eq_false, not_true_eq_false, not_false_eq_true, decide_true, decide_false, true_and, and_true, false_and, and_false, true_or, or_true, false_or, or_false, Bool.true_and, Bool.false_and, Bool.and_true, Bool.and_false, Bool.true_or, Bool.false_or, Bool.or_true, Bool.or_false, Int.reduceEq, Int.reduceNe, Int.reduceLT, Int.reduceLE, Int.toNat_natCast, toNat_add1] at h6
              all_goals (first | contradiction | (exfalso; omega) | (exfalso; simp_all))
            · try simp only [decide_eq_true_eq, decide_eq_false_iff_not, Bool.not_eq_true', Bool.not_eq_false', Bool.not_true, Bool.not_false, Int.not_lt, Int.not_le, Bool.and_eq_true, Bool.or_eq_true, Bool.and_eq_false_iff, Bool.or_eq_false_iff, Bool.false_eq_true, Bool.true_eq_false, not_true_eq_false, not_false_eq_true, decide_true, decide_false, true_and, and_true, false_and, and_false, true_or, or_true, false_or, or_false, Bool.true_and, Bool.false_and, Bool.and_true, Bool.and_false, Bool.true_or, Bool.false_or, Bool.or_true, Bool.or_false, Int.reduceEq, Int.reduceNe, Int.reduceLT, Int.reduceLE, Int.toNat_natCast, toNat_add1] at h6
              all_goals try (first | contradiction | (exfalso; omega))
              all_goals (
                refine runs_seq ?_
                refine runs_keep [10, 3, 1, 2] rfl ?_
                refine runs_region ?_
                refine ops_fl rfl rfl rfl (fl_eql rfl rfl rfl ?_)
                refine ops_fl rfl rfl rfl (fl_assign rfl rfl ?_)
                refine ops_nil ?_
                refine seq_normal ?_
                refine runs_cond rfl (fun h11 => ?_) (fun h11 => ?_)
                · try simp only [decide_eq_true_eq, decide_eq_false_iff_not, Bool.not_eq_true', Bool.not_eq_false', Bool.not_true, Bool.not_false, Int.not_lt, Int.not_le, Bool.and_eq_true, Bool.or_eq_true, Bool.and_eq_false_iff, Bool.or_eq_false_iff, Bool.false_eq_true, Bool.true_eq_false, not_true_eq_false, not_false_eq_true, decide_true, decide_false, true_and, and_true, false_and, and_false, true_or, or_true, false_or, or_false, Bool.true_and, Bool.false_and, Bool.and_true, Bool.and_false, Bool.true_or, Bool.false_or, Bool.or_true, Bool.or_false, Int.reduceEq, Int.reduceNe, Int.reduceLT, Int.reduceLE, Int.toNat_natCast, toNat_add1] at h11
                  all_goals (first | contradiction | (exfalso; omega) | (exfalso; simp_all))
                · try simp only [decide_eq_true_eq, decide_eq_false_iff_not, Bool.not_eq_true', Bool.not_eq_false', Bool.not_true, Bool.not_false, Int.not_lt, Int.not_le, Bool.and_eq_true, Bool.or_eq_true, Bool.and_eq_false_iff, Bool.or_eq_false_iff, Bool.false_eq_true, Bool.true_eq_false, not_true_eq_false, not_false_eq_true, decide_true, decide_false, true_and, and_true, false_and, and_false, true_or, or_true, false_or, or_false, Bool.true_and, Bool.false_and, Bool.and_true, Bool.and_false, Bool.true_or, Bool.false_or, Bool.or_true, Bool.or_false, Int.reduceEq, Int.reduceNe, Int.reduceLT, Int.reduceLE, Int.toNat_natCast, toNat_add1] at h11
                  all_goals try (first | contradiction | (exfalso; omega))
                  all_goals (
                    refine runs_skip ?_
                    refine inb_normal ?_
                    refine seq_normal ?_
                    refine runs_seq ?_
                    refine runs_keep [] rfl ?_
                    refine runs_region ?_
                    refine ops_fl rfl rfl rfl (fl_assign rfl rfl ?_)
                    refine ops_nil ?_
                    refine seq_normal ?_
                    refine runs_ret ?_
                    refine fin_ret ?_
                    refine fin_d1 rfl rfl ?_
                    rfl
                  )
              )
          )
      )
  | succ a ih =>
    intro hsz
    simp only [Lev.size] at hsz
    have h9 := hbd a
    refine triD_of_runs Tryd.func12 rfl Tryd.ntmps12 (rs := [.tmp 6]) rfl rfl rfl ?_
    refine runs_seq ?_
    refine runs_region ?_
    refine ops_cons (T := fun _ => False) rfl (op_box ti31 rfl rfl rfl rfl rfl (by simp only [List.length_cons, List.length_nil, Nat.reduceAdd]; rfl) rfl ?_)
    refine ops_fl rfl rfl rfl (fl_assign rfl rfl ?_)
    refine ops_nil ?_
    refine seq_normal ?_
    refine runs_seq ?_
    refine runs_seq ?_
    refine runs_region ?_
    first
    | refine ops_fl rfl rfl rfl (fl_field_blk ti31 rfl rfl rfl rfl ?_)
    | refine ops_fl rfl rfl rfl (fl_field_cp ti31 rfl rfl rfl rfl rfl ?_)
    first
    | refine ops_fl rfl rfl rfl (fl_load_blk ti3 rfl rfl rfl rfl rfl rfl rfl ?_)
    | refine ops_fl rfl rfl rfl (fl_load_cp ti3 rfl rfl rfl rfl rfl rfl ?_)
    refine ops_nil ?_
    refine seq_normal ?_
    refine runs_block ?_
    refine runs_seq ?_
    refine runs_region ?_
    refine ops_fl rfl rfl rfl (fl_eql rfl rfl rfl ?_)
    refine ops_fl rfl rfl rfl (fl_assign rfl rfl ?_)
    refine ops_nil ?_
    refine seq_normal ?_
    refine runs_cond rfl (fun h2 => ?_) (fun h2 => ?_)
    · try simp only [decide_eq_true_eq, decide_eq_false_iff_not, Bool.not_eq_true', Bool.not_eq_false', Bool.not_true, Bool.not_false, Int.not_lt, Int.not_le, Bool.and_eq_true, Bool.or_eq_true, Bool.and_eq_false_iff, Bool.or_eq_false_iff, Bool.false_eq_true, Bool.true_eq_false, not_true_eq_false, not_false_eq_true, decide_true, decide_false, true_and, and_true, false_and, and_false, true_or, or_true, false_or, or_false, Bool.true_and, Bool.false_and, Bool.and_true, Bool.and_false, Bool.true_or, Bool.false_or, Bool.or_true, Bool.or_false, Int.reduceEq, Int.reduceNe, Int.reduceLT, Int.reduceLE, Int.toNat_natCast, toNat_add1] at h2
      all_goals try (first | contradiction | (exfalso; omega))
      all_goals (
        refine runs_seq ?_
        refine runs_keep [3, 1, 2] rfl ?_
        refine runs_region ?_
        first
        | refine ops_fl rfl rfl rfl (fl_field_blk ti31 rfl rfl rfl rfl ?_)
        | refine ops_fl rfl rfl rfl (fl_field_cp ti31 rfl rfl rfl rfl rfl ?_)
        first
        | refine ops_fl rfl rfl rfl (fl_load_blk ti29 rfl rfl rfl rfl rfl rfl rfl ?_)
        | refine ops_fl rfl rfl rfl (fl_load_cp ti29 rfl rfl rfl rfl rfl rfl ?_)
        first
        | refine ops_fl rfl rfl rfl (fl_index us29 te29 rfl rfl rfl rfl rfl (by omega) (rfl) ?_)
        | refine ops_fl rfl rfl rfl (fl_index_own us29 te29 rfl rfl rfl rfl rfl (by omega) (rfl) ?_)
        first
        | refine ops_fl rfl rfl rfl (fl_load_blk ti31 rfl rfl rfl rfl rfl rfl rfl ?_)
        | refine ops_fl rfl rfl rfl (fl_load_cp ti31 rfl rfl rfl rfl rfl rfl ?_)
        | refine ops_fl rfl rfl rfl (fl_load_all ti31 rfl rfl rfl rfl (by first | rfl | exact Lvl.cells_len _) ?_)
        refine ops_fl rfl rfl rfl (fl_move rfl rfl ?_)
        refine ops_fl rfl rfl rfl (fl_move rfl rfl ?_)
        refine ops_cons (T := fun _ => False) rfl (op_call ca12 rfl rfl rfl rfl (ih (by omega)) (.cons (by first | exact .refl _ | exact .toD rfl | exact .nilD | exact .dle rfl (by repeat' (first | exact DLe.refl _ | exact DLe.nil | exact DLeL.nil | exact DLeLL.nil | apply DLe.agg | apply DLe.tup | apply DLe.sl | apply DLe.cp | apply DLeL.cons | apply DLeLL.cons))) (.cons (by first | exact .refl _ | exact .toD rfl | exact .nilD | exact .dle rfl (by repeat' (first | exact DLe.refl _ | exact DLe.nil | exact DLeL.nil | exact DLeLL.nil | apply DLe.agg | apply DLe.tup | apply DLe.sl | apply DLe.cp | apply DLeL.cons | apply DLeLL.cons))) (.cons (by first | exact .refl _ | exact .toD rfl | exact .nilD | exact .dle rfl (by repeat' (first | exact DLe.refl _ | exact DLe.nil | exact DLeL.nil | exact DLeLL.nil | apply DLe.agg | apply DLe.tup | apply DLe.sl | apply DLe.cp | apply DLeL.cons | apply DLeLL.cons))) .nil))) (fun d hd => ?_))
        obtain rfl := hd
        refine ops_fl rfl rfl rfl (fl_add rfl rfl rfl (by omega) ?_)
        refine ops_fl rfl rfl rfl (fl_assign rfl rfl ?_)
        refine ops_nil ?_
        refine seq_normal ?_
        refine runs_ret ?_
        refine inb_ret ?_
        refine seq_ret ?_
        refine fin_ret ?_
        refine fin_d1 rfl rfl ?_
        rfl
      )
    · try simp only [decide_eq_true_eq, decide_eq_false_iff_not, Bool.not_eq_true', Bool.not_eq_false', Bool.not_true, Bool.not_false, Int.not_lt, Int.not_le, Bool.and_eq_true, Bool.or_eq_true, Bool.and_eq_false_iff, Bool.or_eq_false_iff, Bool.false_eq_true, Bool.true_eq_false, not_true_eq_false, not_false_eq_true, decide_true, decide_false, true_and, and_true, false_and, and_false, true_or, or_true, false_or, or_false, Bool.true_and, Bool.false_and, Bool.and_true, Bool.and_false, Bool.true_or, Bool.false_or, Bool.or_true, Bool.or_false, Int.reduceEq, Int.reduceNe, Int.reduceLT, Int.reduceLE, Int.toNat_natCast, toNat_add1] at h2
      all_goals (first | contradiction | (exfalso; omega) | (exfalso; simp_all))
  | param s =>
    intro hsz
    refine triD_of_runs Tryd.func12 rfl Tryd.ntmps12 (rs := [.tmp 6]) rfl rfl rfl ?_
    refine runs_seq ?_
    refine runs_region ?_
    refine ops_cons (T := fun _ => False) rfl (op_box ti31 rfl rfl rfl rfl rfl (by simp only [List.length_cons, List.length_nil, Nat.reduceAdd]; rfl) rfl ?_)
    refine ops_fl rfl rfl rfl (fl_assign rfl rfl ?_)
    refine ops_nil ?_
    refine seq_normal ?_
    refine runs_seq ?_
    refine runs_seq ?_
    refine runs_region ?_
    first
    | refine ops_fl rfl rfl rfl (fl_field_blk ti31 rfl rfl rfl rfl ?_)
    | refine ops_fl rfl rfl rfl (fl_field_cp ti31 rfl rfl rfl rfl rfl ?_)
    first
    | refine ops_fl rfl rfl rfl (fl_load_blk ti3 rfl rfl rfl rfl rfl rfl rfl ?_)
    | refine ops_fl rfl rfl rfl (fl_load_cp ti3 rfl rfl rfl rfl rfl rfl ?_)
    refine ops_nil ?_
    refine seq_normal ?_
    refine runs_block ?_
    refine runs_seq ?_
    refine runs_region ?_
    refine ops_fl rfl rfl rfl (fl_eql rfl rfl rfl ?_)
    refine ops_fl rfl rfl rfl (fl_assign rfl rfl ?_)
    refine ops_nil ?_
    refine seq_normal ?_
    refine runs_cond rfl (fun h2 => ?_) (fun h2 => ?_)
    · try simp only [decide_eq_true_eq, decide_eq_false_iff_not, Bool.not_eq_true', Bool.not_eq_false', Bool.not_true, Bool.not_false, Int.not_lt, Int.not_le, Bool.and_eq_true, Bool.or_eq_true, Bool.and_eq_false_iff, Bool.or_eq_false_iff, Bool.false_eq_true, Bool.true_eq_false, not_true_eq_false, not_false_eq_true, decide_true, decide_false, true_and, and_true, false_and, and_false, true_or, or_true, false_or, or_false, Bool.true_and, Bool.false_and, Bool.and_true, Bool.and_false, Bool.true_or, Bool.false_or, Bool.or_true, Bool.or_false, Int.reduceEq, Int.reduceNe, Int.reduceLT, Int.reduceLE, Int.toNat_natCast, toNat_add1] at h2
      all_goals (first | contradiction | (exfalso; omega) | (exfalso; simp_all))
    · try simp only [decide_eq_true_eq, decide_eq_false_iff_not, Bool.not_eq_true', Bool.not_eq_false', Bool.not_true, Bool.not_false, Int.not_lt, Int.not_le, Bool.and_eq_true, Bool.or_eq_true, Bool.and_eq_false_iff, Bool.or_eq_false_iff, Bool.false_eq_true, Bool.true_eq_false, not_true_eq_false, not_false_eq_true, decide_true, decide_false, true_and, and_true, false_and, and_false, true_or, or_true, false_or, or_false, Bool.true_and, Bool.false_and, Bool.and_true, Bool.and_false, Bool.true_or, Bool.false_or, Bool.or_true, Bool.or_false, Int.reduceEq, Int.reduceNe, Int.reduceLT, Int.reduceLE, Int.toNat_natCast, toNat_add1] at h2
      all_goals try (first | contradiction | (exfalso; omega))
      all_goals (
        refine runs_seq ?_
        refine runs_keep [10, 3, 1, 2] rfl ?_
        refine runs_region ?_
        refine ops_fl rfl rfl rfl (fl_eql rfl rfl rfl ?_)
        refine ops_fl rfl rfl rfl (fl_assign rfl rfl ?_)
        refine ops_nil ?_
        refine seq_normal ?_
        refine runs_cond rfl (fun h4 => ?_) (fun h4 => ?_)
        · try simp only [decide_eq_true_eq, decide_eq_false_iff_not, Bool.not_eq_true', Bool.not_eq_false', Bool.not_true, Bool.not_false, Int.not_lt, Int.not_le, Bool.and_eq_true, Bool.or_eq_true, Bool.and_eq_false_iff, Bool.or_eq_false_iff, Bool.false_eq_true, Bool.true_eq_false, not_true_eq_false, not_false_eq_true, decide_true, decide_false, true_and, and_true, false_and, and_false, true_or, or_true, false_or, or_false, Bool.true_and, Bool.false_and, Bool.and_true, Bool.and_false, Bool.true_or, Bool.false_or, Bool.or_true, Bool.or_false, Int.reduceEq, Int.reduceNe, Int.reduceLT, Int.reduceLE, Int.toNat_natCast, toNat_add1] at h4
          all_goals (first | contradiction | (exfalso; omega) | (exfalso; simp_all))
        · try simp only [decide_eq_true_eq, decide_eq_false_iff_not, Bool.not_eq_true', Bool.not_eq_false', Bool.not_true, Bool.not_false, Int.not_lt, Int.not_le, Bool.and_eq_true, Bool.or_eq_true, Bool.and_eq_false_iff, Bool.or_eq_false_iff, Bool.false_eq_true, Bool.true_eq_false, not_true_eq_false, not_false_eq_true, decide_true, decide_false, true_and, and_true, false_and, and_false, true_or, or_true, false_or, or_false, Bool.true_and, Bool.false_and, Bool.and_true, Bool.and_false, Bool.true_or, Bool.false_or, Bool.or_true, Bool.or_false, Int.reduceEq, Int.reduceNe, Int.reduceLT, Int.reduceLE, Int.toNat_natCast, toNat_add1] at h4
          all_goals try (first | contradiction | (exfalso; omega))
          all_goals (
            refine runs_seq ?_
            refine runs_region ?_
            refine ops_fl rfl rfl rfl (fl_eql rfl rfl rfl ?_)
            refine ops_fl rfl rfl rfl (fl_assign rfl rfl ?_)
            refine ops_nil ?_
            refine seq_normal ?_
            refine runs_cond rfl (fun h6 => ?_) (fun h6 => ?_)
            · try simp only [decide_eq_true_eq, decide_eq_false_iff_not, Bool.not_eq_true', Bool.not_eq_false', Bool.not_true, Bool.not_false, Int.not_lt, Int.not_le, Bool.and_eq_true, Bool.or_eq_true, Bool.and_eq_false_iff, Bool.or_eq_false_iff, Bool.false_eq_true, Bool.true_eq_false, not_true_eq_false, not_false_eq_true, decide_true, decide_false, true_and, and_true, false_and, and_false, true_or, or_true, false_or, or_false, Bool.true_and, Bool.false_and, Bool.and_true, Bool.and_false, Bool.true_or, Bool.false_or, Bool.or_true, Bool.or_false, Int.reduceEq, Int.reduceNe, Int.reduceLT, Int.reduceLE, Int.toNat_natCast, toNat_add1] at h6
              all_goals (first | contradiction | (exfalso; omega) | (exfalso; simp_all))
            · try simp only [decide_eq_true_eq, decide_eq_false_iff_not, Bool.not_eq_true', Bool.not_eq_false', Bool.not_true, Bool.not_false, Int.not_lt, Int.not_le, Bool.and_eq_true, Bool.or_eq_true, Bool.and_eq_false_iff, Bool.or_eq_false_iff, Bool.false_eq_true, Bool.true_eq_false, not_true_eq_false, not_false_eq_true, decide_true, decide_false, true_and, and_true, false_and, and_false, true_or, or_true, false_or, or_false, Bool.true_and, Bool.false_and, Bool.and_true, Bool.and_false, Bool.true_or, Bool.false_or, Bool.or_true, Bool.or_false, Int.reduceEq, Int.reduceNe, Int.reduceLT, Int.reduceLE, Int.toNat_natCast, toNat_add1] at h6
              all_goals try (first | contradiction | (exfalso; omega))
              all_goals (
                refine runs_seq ?_
                refine runs_keep [10, 3, 1, 2] rfl ?_
                refine runs_region ?_
                refine ops_fl rfl rfl rfl (fl_eql rfl rfl rfl ?_)
                refine ops_fl rfl rfl rfl (fl_assign rfl rfl ?_)
                refine ops_nil ?_
                refine seq_normal ?_
                refine runs_cond rfl (fun h11 => ?_) (fun h11 => ?_)
                · try simp only [decide_eq_true_eq, decide_eq_false_iff_not, Bool.not_eq_true', Bool.not_eq_false', Bool.not_true, Bool.not_false, Int.not_lt, Int.not_le, Bool.and_eq_true, Bool.or_eq_true, Bool.and_eq_false_iff, Bool.or_eq_false_iff, Bool.false_eq_true, Bool.true_eq_false, not_true_eq_false, not_false_eq_true, decide_true, decide_false, true_and, and_true, false_and, and_false, true_or, or_true, false_or, or_false, Bool.true_and, Bool.false_and, Bool.and_true, Bool.and_false, Bool.true_or, Bool.false_or, Bool.or_true, Bool.or_false, Int.reduceEq, Int.reduceNe, Int.reduceLT, Int.reduceLE, Int.toNat_natCast, toNat_add1] at h11
                  all_goals try (first | contradiction | (exfalso; omega))
                  all_goals (
                    refine runs_seq ?_
                    refine runs_region ?_
                    refine ops_fl rfl rfl rfl (fl_move rfl rfl ?_)
                    first
                    | refine ops_fl rfl rfl rfl (fl_field_blk ti31 rfl rfl rfl rfl ?_)
                    | refine ops_fl rfl rfl rfl (fl_field_cp ti31 rfl rfl rfl rfl rfl ?_)
                    first
                    | refine ops_fl rfl rfl rfl (fl_load_blk ti9 rfl rfl rfl rfl rfl rfl rfl ?_)
                    | refine ops_fl rfl rfl rfl (fl_load_cp ti9 rfl rfl rfl rfl rfl rfl ?_)
                    refine ops_cons (T := fun _ => False) rfl (op_call ca28 rfl rfl rfl rfl (index_spec ps s hl2) (.cons (by first | exact .refl _ | exact .toD rfl | exact .nilD | exact .dle rfl (by repeat' (first | exact DLe.refl _ | exact DLe.nil | exact DLeL.nil | exact DLeLL.nil | apply DLe.agg | apply DLe.tup | apply DLe.sl | apply DLe.cp | apply DLeL.cons | apply DLeLL.cons))) (.cons (by first | exact .refl _ | exact .toD rfl | exact .nilD | exact .dle rfl (by repeat' (first | exact DLe.refl _ | exact DLe.nil | exact DLeL.nil | exact DLeLL.nil | apply DLe.agg | apply DLe.tup | apply DLe.sl | apply DLe.cp | apply DLeL.cons | apply DLeLL.cons))) .nil)) (fun d hd => ?_))
                    obtain rfl := hd
                    refine ops_fl rfl rfl rfl (fl_assign rfl rfl ?_)
                    refine ops_nil ?_
                    refine seq_normal ?_
                    refine runs_seq ?_
                    refine runs_keep [8, 2] rfl ?_
                    refine runs_region ?_
                    refine ops_fl rfl rfl rfl (fl_move rfl rfl ?_)
                    refine ops_fl rfl rfl rfl (fl_geq rfl rfl rfl ?_)
                    refine ops_nil ?_
                    refine seq_normal ?_
                    refine runs_cond rfl (fun h13 => ?_) (fun h13 => ?_)
                    · try simp only [decide_eq_true_eq, decide_eq_false_iff_not, Bool.not_eq_true', Bool.not_eq_false', Bool.not_true, Bool.not_false, Int.not_lt, Int.not_le, Bool.and_eq_true, Bool.or_eq_true, Bool.and_eq_false_iff, Bool.or_eq_false_iff, Bool.false_eq_true, Bool.true_eq_false, not_true_eq_false, not_false_eq_true, decide_true, decide_false, true_and, and_true, false_and, and_false, true_or, or_true, false_or, or_false, Bool.true_and, Bool.false_and, Bool.and_true, Bool.and_false, Bool.true_or, Bool.false_or, Bool.or_true, Bool.or_false, Int.reduceEq, Int.reduceNe, Int.reduceLT, Int.reduceLE, Int.toNat_natCast, toNat_add1] at h13
                      all_goals try (first | contradiction | (exfalso; omega))
                      all_goals (
                        refine runs_seq ?_
                        refine runs_region ?_
                        refine ops_fl rfl rfl rfl (fl_move rfl rfl ?_)
                        refine ops_fl rfl rfl rfl (fl_move rfl rfl ?_)
                        rcases idxI_case ps s with ⟨_, hx⟩ | ⟨i, hi, hx1, hx2, hx⟩
                        · omega
                        have hin : i < ns.length := by omega
                        rw [hx]
                        first
                        | refine ops_fl rfl rfl rfl (fl_index us39 te39 rfl rfl rfl rfl rfl (by omega) (int_at (by omega)) ?_)
                        | refine ops_fl rfl rfl rfl (fl_index_own us39 te39 rfl rfl rfl rfl rfl (by omega) (int_at (by omega)) ?_)
                        first
                        | refine ops_fl rfl rfl rfl (fl_load_blk ti3 rfl rfl rfl rfl rfl rfl rfl ?_)
                        | refine ops_fl rfl rfl rfl (fl_load_cp ti3 rfl rfl rfl rfl rfl rfl ?_)
                        refine ops_fl rfl rfl rfl (fl_assign rfl rfl ?_)
                        refine ops_nil ?_
                        refine seq_normal ?_
                        refine runs_ret ?_
                        refine inb_ret ?_
                        refine seq_ret ?_
                        refine fin_ret ?_
                        refine fin_d1 rfl rfl ?_
                        obtain ⟨n, hn1, hn2⟩ := pval_at hl hx1 (show ps[i]? = some s by rw [List.getElem?_eq_getElem hi, hx2])
                        rw [List.getElem?_eq_getElem hin] at hn1
                        simp only [Lev.worth, hn2]
                        cases hn1; rfl
                      )
                    · try simp only [decide_eq_true_eq, decide_eq_false_iff_not, Bool.not_eq_true', Bool.not_eq_false', Bool.not_true, Bool.not_false, Int.not_lt, Int.not_le, Bool.and_eq_true, Bool.or_eq_true, Bool.and_eq_false_iff, Bool.or_eq_false_iff, Bool.false_eq_true, Bool.true_eq_false, not_true_eq_false, not_false_eq_true, decide_true, decide_false, true_and, and_true, false_and, and_false, true_or, or_true, false_or, or_false, Bool.true_and, Bool.false_and, Bool.and_true, Bool.and_false, Bool.true_or, Bool.false_or, Bool.or_true, Bool.or_false, Int.reduceEq, Int.reduceNe, Int.reduceLT, Int.reduceLE, Int.toNat_natCast, toNat_add1] at h13
                      all_goals try (first | contradiction | (exfalso; omega))
                      all_goals (
                        refine runs_skip ?_
                        refine inb_normal ?_
                        refine seq_normal ?_
                        refine runs_seq ?_
                        refine runs_keep [] rfl ?_
                        refine runs_region ?_
                        refine ops_fl rfl rfl rfl (fl_assign rfl rfl ?_)
                        refine ops_nil ?_
                        refine seq_normal ?_
                        refine runs_ret ?_
                        refine fin_ret ?_
                        refine fin_d1 rfl rfl ?_
                        rcases idxI_case ps s with ⟨hx, _⟩ | ⟨i, hi, hx1, hx2, hx⟩
                        · simp only [Lev.worth, pval_none hx]
                        · omega
                      )
                  )
                · try simp only [decide_eq_true_eq, decide_eq_false_iff_not, Bool.not_eq_true', Bool.not_eq_false', Bool.not_true, Bool.not_false, Int.not_lt, Int.not_le, Bool.and_eq_true, Bool.or_eq_true, Bool.and_eq_false_iff, Bool.or_eq_false_iff, Bool.false_eq_true, Bool.true_eq_false, not_true_eq_false, not_false_eq_true, decide_true, decide_false, true_and, and_true, false_and, and_false, true_or, or_true, false_or, or_false, Bool.true_and, Bool.false_and, Bool.and_true, Bool.and_false, Bool.true_or, Bool.false_or, Bool.or_true, Bool.or_false, Int.reduceEq, Int.reduceNe, Int.reduceLT, Int.reduceLE, Int.toNat_natCast, toNat_add1] at h11
                  all_goals (first | contradiction | (exfalso; omega) | (exfalso; simp_all))
              )
          )
      )
  | max a b iha ihb =>
    intro hsz
    simp only [Lev.size] at hsz
    have h9 := hbd a
    have h10 := hbd b
    refine triD_of_runs Tryd.func12 rfl Tryd.ntmps12 (rs := [.tmp 6]) rfl rfl rfl ?_
    refine runs_seq ?_
    refine runs_region ?_
    refine ops_cons (T := fun _ => False) rfl (op_box ti31 rfl rfl rfl rfl rfl (by simp only [List.length_cons, List.length_nil, Nat.reduceAdd]; rfl) rfl ?_)
    refine ops_fl rfl rfl rfl (fl_assign rfl rfl ?_)
    refine ops_nil ?_
    refine seq_normal ?_
    refine runs_seq ?_
    refine runs_seq ?_
    refine runs_region ?_
    first
    | refine ops_fl rfl rfl rfl (fl_field_blk ti31 rfl rfl rfl rfl ?_)
    | refine ops_fl rfl rfl rfl (fl_field_cp ti31 rfl rfl rfl rfl rfl ?_)
    first
    | refine ops_fl rfl rfl rfl (fl_load_blk ti3 rfl rfl rfl rfl rfl rfl rfl ?_)
    | refine ops_fl rfl rfl rfl (fl_load_cp ti3 rfl rfl rfl rfl rfl rfl ?_)
    refine ops_nil ?_
    refine seq_normal ?_
    refine runs_block ?_
    refine runs_seq ?_
    refine runs_region ?_
    refine ops_fl rfl rfl rfl (fl_eql rfl rfl rfl ?_)
    refine ops_fl rfl rfl rfl (fl_assign rfl rfl ?_)
    refine ops_nil ?_
    refine seq_normal ?_
    refine runs_cond rfl (fun h2 => ?_) (fun h2 => ?_)
    · try simp only [decide_eq_true_eq, decide_eq_false_iff_not, Bool.not_eq_true', Bool.not_eq_false', Bool.not_true, Bool.not_false, Int.not_lt, Int.not_le, Bool.and_eq_true, Bool.or_eq_true, Bool.and_eq_false_iff, Bool.or_eq_false_iff, Bool.false_eq_true, Bool.true_eq_false, not_true_eq_false, not_false_eq_true, decide_true, decide_false, true_and, and_true, false_and, and_false, true_or, or_true, false_or, or_false, Bool.true_and, Bool.false_and, Bool.and_true, Bool.and_false, Bool.true_or, Bool.false_or, Bool.or_true, Bool.or_false, Int.reduceEq, Int.reduceNe, Int.reduceLT, Int.reduceLE, Int.toNat_natCast, toNat_add1] at h2
      all_goals (first | contradiction | (exfalso; omega) | (exfalso; simp_all))
    · try simp only [decide_eq_true_eq, decide_eq_false_iff_not, Bool.not_eq_true', Bool.not_eq_false', Bool.not_true, Bool.not_false, Int.not_lt, Int.not_le, Bool.and_eq_true, Bool.or_eq_true, Bool.and_eq_false_iff, Bool.or_eq_false_iff, Bool.false_eq_true, Bool.true_eq_false, not_true_eq_false, not_false_eq_true, decide_true, decide_false, true_and, and_true, false_and, and_false, true_or, or_true, false_or, or_false, Bool.true_and, Bool.false_and, Bool.and_true, Bool.and_false, Bool.true_or, Bool.false_or, Bool.or_true, Bool.or_false, Int.reduceEq, Int.reduceNe, Int.reduceLT, Int.reduceLE, Int.toNat_natCast, toNat_add1] at h2
      all_goals try (first | contradiction | (exfalso; omega))
      all_goals (
        refine runs_seq ?_
        refine runs_keep [10, 3, 1, 2] rfl ?_
        refine runs_region ?_
        refine ops_fl rfl rfl rfl (fl_eql rfl rfl rfl ?_)
        refine ops_fl rfl rfl rfl (fl_assign rfl rfl ?_)
        refine ops_nil ?_
        refine seq_normal ?_
        refine runs_cond rfl (fun h4 => ?_) (fun h4 => ?_)
        · try simp only [decide_eq_true_eq, decide_eq_false_iff_not, Bool.not_eq_true', Bool.not_eq_false', Bool.not_true, Bool.not_false, Int.not_lt, Int.not_le, Bool.and_eq_true, Bool.or_eq_true, Bool.and_eq_false_iff, Bool.or_eq_false_iff, Bool.false_eq_true, Bool.true_eq_false, not_true_eq_false, not_false_eq_true, decide_true, decide_false, true_and, and_true, false_and, and_false, true_or, or_true, false_or, or_false, Bool.true_and, Bool.false_and, Bool.and_true, Bool.and_false, Bool.true_or, Bool.false_or, Bool.or_true, Bool.or_false, Int.reduceEq, Int.reduceNe, Int.reduceLT, Int.reduceLE, Int.toNat_natCast, toNat_add1] at h4
          all_goals try (first | contradiction | (exfalso; omega))
          all_goals (
            refine runs_seq ?_
            refine any_start mixed rfl rfl ?_
            first
            | refine any_fl 0 rfl rfl rfl rfl (by kernel_rfl) rfl (fl_field_blk ti31 rfl rfl rfl rfl ⟨_, rfl, ?_⟩)
            | refine any_fl 0 rfl rfl rfl rfl (by kernel_rfl) rfl (fl_field_cp ti31 rfl rfl rfl rfl rfl ⟨_, rfl, ?_⟩)
            first
            | refine any_fl 1 rfl rfl rfl rfl (by kernel_rfl) rfl (fl_load_blk ti29 rfl rfl rfl rfl rfl rfl rfl ⟨_, rfl, ?_⟩)
            | refine any_fl 1 rfl rfl rfl rfl (by kernel_rfl) rfl (fl_load_cp ti29 rfl rfl rfl rfl rfl rfl ⟨_, rfl, ?_⟩)
            first
            | refine any_fl 2 rfl rfl rfl rfl (by kernel_rfl) rfl (fl_index us29 te29 rfl rfl rfl rfl rfl (by omega) (rfl) ⟨_, rfl, ?_⟩)
            | refine any_fl 2 rfl rfl rfl rfl (by kernel_rfl) rfl (fl_index_own us29 te29 rfl rfl rfl rfl rfl (by omega) (rfl) ⟨_, rfl, ?_⟩)
            first
            | refine any_fl 3 rfl rfl rfl rfl (by kernel_rfl) rfl (fl_load_blk ti31 rfl rfl rfl rfl rfl rfl rfl ⟨_, rfl, ?_⟩)
            | refine any_fl 3 rfl rfl rfl rfl (by kernel_rfl) rfl (fl_load_cp ti31 rfl rfl rfl rfl rfl rfl ⟨_, rfl, ?_⟩)
            | refine any_fl 3 rfl rfl rfl rfl (by kernel_rfl) rfl (fl_load_all ti31 rfl rfl rfl rfl (by first | rfl | exact Lvl.cells_len _) ⟨_, rfl, ?_⟩)
            refine any_fl 4 rfl rfl rfl rfl (by kernel_rfl) rfl (fl_move rfl rfl ⟨_, rfl, ?_⟩)
            refine any_fl 5 rfl rfl rfl rfl (by kernel_rfl) rfl (fl_move rfl rfl ⟨_, rfl, ?_⟩)
            first
            | refine any_fl 7 rfl rfl rfl rfl (by kernel_rfl) rfl (fl_field_blk ti31 rfl rfl rfl rfl ⟨_, rfl, ?_⟩)
            | refine any_fl 7 rfl rfl rfl rfl (by kernel_rfl) rfl (fl_field_cp ti31 rfl rfl rfl rfl rfl ⟨_, rfl, ?_⟩)
            first
            | refine any_fl 8 rfl rfl rfl rfl (by kernel_rfl) rfl (fl_load_blk ti29 rfl rfl rfl rfl rfl rfl rfl ⟨_, rfl, ?_⟩)
            | refine any_fl 8 rfl rfl rfl rfl (by kernel_rfl) rfl (fl_load_cp ti29 rfl rfl rfl rfl rfl rfl ⟨_, rfl, ?_⟩)
            first
            | refine any_fl 9 rfl rfl rfl rfl (by kernel_rfl) rfl (fl_index us29 te29 rfl rfl rfl rfl rfl (by omega) (rfl) ⟨_, rfl, ?_⟩)
            | refine any_fl 9 rfl rfl rfl rfl (by kernel_rfl) rfl (fl_index_own us29 te29 rfl rfl rfl rfl rfl (by omega) (rfl) ⟨_, rfl, ?_⟩)
            first
            | refine any_fl 10 rfl rfl rfl rfl (by kernel_rfl) rfl (fl_load_blk ti31 rfl rfl rfl rfl rfl rfl rfl ⟨_, rfl, ?_⟩)
            | refine any_fl 10 rfl rfl rfl rfl (by kernel_rfl) rfl (fl_load_cp ti31 rfl rfl rfl rfl rfl rfl ⟨_, rfl, ?_⟩)
            | refine any_fl 10 rfl rfl rfl rfl (by kernel_rfl) rfl (fl_load_all ti31 rfl rfl rfl rfl (by first | rfl | exact Lvl.cells_len _) ⟨_, rfl, ?_⟩)
            refine any_fl 11 rfl rfl rfl rfl (by kernel_rfl) rfl (fl_move rfl rfl ⟨_, rfl, ?_⟩)
            refine any_fl 12 rfl rfl rfl rfl (by kernel_rfl) rfl (fl_move rfl rfl ⟨_, rfl, ?_⟩)
            refine any_st (T := fun _ => False) 6 rfl rfl (by kernel_rfl) rfl rfl (by intro p hp; simp only [List.mem_cons, List.not_mem_nil, or_false] at hp; all_goals (first | exact hp.elim | (subst hp; exact ⟨by simp, _, _, rfl⟩) | (rcases hp with rfl | rfl <;> exact ⟨by simp, _, _, rfl⟩) | (rcases hp with rfl | rfl | rfl <;> exact ⟨by simp, _, _, rfl⟩) | (rcases hp with rfl | rfl | rfl | rfl <;> exact ⟨by simp, _, _, rfl⟩) | (rcases hp with rfl | rfl | rfl | rfl | rfl <;> exact ⟨by simp, _, _, rfl⟩))) (op_call ca12 rfl rfl rfl rfl (iha (by omega)) (.cons (by first | exact .refl _ | exact .toD rfl | exact .nilD | exact .dle rfl (by repeat' (first | exact DLe.refl _ | exact DLe.nil | exact DLeL.nil | exact DLeLL.nil | apply DLe.agg | apply DLe.tup | apply DLe.sl | apply DLe.cp | apply DLeL.cons | apply DLeLL.cons))) (.cons (by first | exact .refl _ | exact .toD rfl | exact .nilD | exact .dle rfl (by repeat' (first | exact DLe.refl _ | exact DLe.nil | exact DLeL.nil | exact DLeLL.nil | apply DLe.agg | apply DLe.tup | apply DLe.sl | apply DLe.cp | apply DLeL.cons | apply DLeLL.cons))) (.cons (by first | exact .refl _ | exact .toD rfl | exact .nilD | exact .dle rfl (by repeat' (first | exact DLe.refl _ | exact DLe.nil | exact DLeL.nil | exact DLeLL.nil | apply DLe.agg | apply DLe.tup | apply DLe.sl | apply DLe.cp | apply DLeL.cons | apply DLeLL.cons))) .nil))) (fun d hd => ?_))
            obtain rfl := hd
            refine any_st (T := fun _ => False) 13 rfl rfl (by kernel_rfl) rfl rfl (by intro p hp; simp only [List.mem_cons, List.not_mem_nil, or_false] at hp; all_goals (first | exact hp.elim | (subst hp; exact ⟨by simp, _, _, rfl⟩) | (rcases hp with rfl | rfl <;> exact ⟨by simp, _, _, rfl⟩) | (rcases hp with rfl | rfl | rfl <;> exact ⟨by simp, _, _, rfl⟩) | (rcases hp with rfl | rfl | rfl | rfl <;> exact ⟨by simp, _, _, rfl⟩) | (rcases hp with rfl | rfl | rfl | rfl | rfl <;> exact ⟨by simp, _, _, rfl⟩))) (op_call ca12 rfl rfl rfl rfl (ihb (by omega)) (.cons (by first | exact .refl _ | exact .toD rfl | exact .nilD | exact .dle rfl (by repeat' (first | exact DLe.refl _ | exact DLe.nil | exact DLeL.nil | exact DLeLL.nil | apply DLe.agg | apply DLe.tup | apply DLe.sl | apply DLe.cp | apply DLeL.cons | apply DLeLL.cons))) (.cons (by first | exact .refl _ | exact .toD rfl | exact .nilD | exact .dle rfl (by repeat' (first | exact DLe.refl _ | exact DLe.nil | exact DLeL.nil | exact DLeLL.nil | apply DLe.agg | apply DLe.tup | apply DLe.sl | apply DLe.cp | apply DLeL.cons | apply DLeLL.cons))) (.cons (by first | exact .refl _ | exact .toD rfl | exact .nilD | exact .dle rfl (by repeat' (first | exact DLe.refl _ | exact DLe.nil | exact DLeL.nil | exact DLeLL.nil | apply DLe.agg | apply DLe.tup | apply DLe.sl | apply DLe.cp | apply DLeL.cons | apply DLeLL.cons))) .nil))) (fun d hd => ?_))
            obtain rfl := hd
            refine any_fl 14 rfl rfl rfl rfl (by kernel_rfl) rfl (fl_max rfl rfl rfl ⟨_, rfl, ?_⟩)
            refine any_fl 15 rfl rfl rfl rfl (by kernel_rfl) rfl (fl_assign rfl rfl ⟨_, rfl, ?_⟩)
            refine any_end (by kernel_rfl) ?_
            refine seq_normal ?_
            refine runs_ret ?_
            refine inb_ret ?_
            refine seq_ret ?_
            refine fin_ret ?_
            refine fin_d1 rfl rfl ?_
            rfl
          )
        · try simp only [decide_eq_true_eq, decide_eq_false_iff_not, Bool.not_eq_true', Bool.not_eq_false', Bool.not_true, Bool.not_false, Int.not_lt, Int.not_le, Bool.and_eq_true, Bool.or_eq_true, Bool.and_eq_false_iff, Bool.or_eq_false_iff, Bool.false_eq_true, Bool.true_eq_false, not_true_eq_false, not_false_eq_true, decide_true, decide_false, true_and, and_true, false_and, and_false, true_or, or_true, false_or, or_false, Bool.true_and, Bool.false_and, Bool.and_true, Bool.and_false, Bool.true_or, Bool.false_or, Bool.or_true, Bool.or_false, Int.reduceEq, Int.reduceNe, Int.reduceLT, Int.reduceLE, Int.toNat_natCast, toNat_add1] at h4
          all_goals (first | contradiction | (exfalso; omega) | (exfalso; simp_all))
      )
  | imax a b iha ihb =>
    intro hsz
    simp only [Lev.size] at hsz
    have h9 := hbd a
    have h10 := hbd b
    refine triD_of_runs Tryd.func12 rfl Tryd.ntmps12 (rs := [.tmp 6]) rfl rfl rfl ?_
    refine runs_seq ?_
    refine runs_region ?_
    refine ops_cons (T := fun _ => False) rfl (op_box ti31 rfl rfl rfl rfl rfl (by simp only [List.length_cons, List.length_nil, Nat.reduceAdd]; rfl) rfl ?_)
    refine ops_fl rfl rfl rfl (fl_assign rfl rfl ?_)
    refine ops_nil ?_
    refine seq_normal ?_
    refine runs_seq ?_
    refine runs_seq ?_
    refine runs_region ?_
    first
    | refine ops_fl rfl rfl rfl (fl_field_blk ti31 rfl rfl rfl rfl ?_)
    | refine ops_fl rfl rfl rfl (fl_field_cp ti31 rfl rfl rfl rfl rfl ?_)
    first
    | refine ops_fl rfl rfl rfl (fl_load_blk ti3 rfl rfl rfl rfl rfl rfl rfl ?_)
    | refine ops_fl rfl rfl rfl (fl_load_cp ti3 rfl rfl rfl rfl rfl rfl ?_)
    refine ops_nil ?_
    refine seq_normal ?_
    refine runs_block ?_
    refine runs_seq ?_
    refine runs_region ?_
    refine ops_fl rfl rfl rfl (fl_eql rfl rfl rfl ?_)
    refine ops_fl rfl rfl rfl (fl_assign rfl rfl ?_)
    refine ops_nil ?_
    refine seq_normal ?_
    refine runs_cond rfl (fun h2 => ?_) (fun h2 => ?_)
    · try simp only [decide_eq_true_eq, decide_eq_false_iff_not, Bool.not_eq_true', Bool.not_eq_false', Bool.not_true, Bool.not_false, Int.not_lt, Int.not_le, Bool.and_eq_true, Bool.or_eq_true, Bool.and_eq_false_iff, Bool.or_eq_false_iff, Bool.false_eq_true, Bool.true_eq_false, not_true_eq_false, not_false_eq_true, decide_true, decide_false, true_and, and_true, false_and, and_false, true_or, or_true, false_or, or_false, Bool.true_and, Bool.false_and, Bool.and_true, Bool.and_false, Bool.true_or, Bool.false_or, Bool.or_true, Bool.or_false, Int.reduceEq, Int.reduceNe, Int.reduceLT, Int.reduceLE, Int.toNat_natCast, toNat_add1] at h2
      all_goals (first | contradiction | (exfalso; omega) | (exfalso; simp_all))
    · try simp only [decide_eq_true_eq, decide_eq_false_iff_not, Bool.not_eq_true', Bool.not_eq_false', Bool.not_true, Bool.not_false, Int.not_lt, Int.not_le, Bool.and_eq_true, Bool.or_eq_true, Bool.and_eq_false_iff, Bool.or_eq_false_iff, Bool.false_eq_true, Bool.true_eq_false, not_true_eq_false, not_false_eq_true, decide_true, decide_false, true_and, and_true, false_and, and_false, true_or, or_true, false_or, or_false, Bool.true_and, Bool.false_and, Bool.and_true, Bool.and_false, Bool.true_or, Bool.false_or, Bool.or_true, Bool.or_false, Int.reduceEq, Int.reduceNe, Int.reduceLT, Int.reduceLE, Int.toNat_natCast, toNat_add1] at h2
      all_goals try (first | contradiction | (exfalso; omega))
      all_goals (
        refine runs_seq ?_
        refine runs_keep [10, 3, 1, 2] rfl ?_
        refine runs_region ?_
        refine ops_fl rfl rfl rfl (fl_eql rfl rfl rfl ?_)
        refine ops_fl rfl rfl rfl (fl_assign rfl rfl ?_)
        refine ops_nil ?_
        refine seq_normal ?_
        refine runs_cond rfl (fun h4 => ?_) (fun h4 => ?_)
        · try simp only [decide_eq_true_eq, decide_eq_false_iff_not, Bool.not_eq_true', Bool.not_eq_false', Bool.not_true, Bool.not_false, Int.not_lt, Int.not_le, Bool.and_eq_true, Bool.or_eq_true, Bool.and_eq_false_iff, Bool.or_eq_false_iff, Bool.false_eq_true, Bool.true_eq_false, not_true_eq_false, not_false_eq_true, decide_true, decide_false, true_and, and_true, false_and, and_false, true_or, or_true, false_or, or_false, Bool.true_and, Bool.false_and, Bool.and_true, Bool.and_false, Bool.true_or, Bool.false_or, Bool.or_true, Bool.or_false, Int.reduceEq, Int.reduceNe, Int.reduceLT, Int.reduceLE, Int.toNat_natCast, toNat_add1] at h4
          all_goals (first | contradiction | (exfalso; omega) | (exfalso; simp_all))
        · try simp only [decide_eq_true_eq, decide_eq_false_iff_not, Bool.not_eq_true', Bool.not_eq_false', Bool.not_true, Bool.not_false, Int.not_lt, Int.not_le, Bool.and_eq_true, Bool.or_eq_true, Bool.and_eq_false_iff, Bool.or_eq_false_iff, Bool.false_eq_true, Bool.true_eq_false, not_true_eq_false, not_false_eq_true, decide_true, decide_false, true_and, and_true, false_and, and_false, true_or, or_true, false_or, or_false, Bool.true_and, Bool.false_and, Bool.and_true, Bool.and_false, Bool.true_or, Bool.false_or, Bool.or_true, Bool.or_false, Int.reduceEq, Int.reduceNe, Int.reduceLT, Int.reduceLE, Int.toNat_natCast, toNat_add1] at h4
          all_goals try (first | contradiction | (exfalso; omega))
          all_goals (
            refine runs_seq ?_
            refine runs_region ?_
            refine ops_fl rfl rfl rfl (fl_eql rfl rfl rfl ?_)
            refine ops_fl rfl rfl rfl (fl_assign rfl rfl ?_)
            refine ops_nil ?_
            refine seq_normal ?_
            refine runs_cond rfl (fun h6 => ?_) (fun h6 => ?_)
            · try simp only [decide_eq_true_eq, decide_eq_false_iff_not, Bool.not_eq_true', Bool.not_eq_false', Bool.not_true, Bool.not_false, Int.not_lt, Int.not_le, Bool.and_eq_true, Bool.or_eq_true, Bool.and_eq_false_iff, Bool.or_eq_false_iff, Bool.false_eq_true, Bool.true_eq_false, not_true_eq_false, not_false_eq_true, decide_true, decide_false, true_and, and_true, false_and, and_false, true_or, or_true, false_or, or_false, Bool.true_and, Bool.false_and, Bool.and_true, Bool.and_false, Bool.true_or, Bool.false_or, Bool.or_true, Bool.or_false, Int.reduceEq, Int.reduceNe, Int.reduceLT, Int.reduceLE, Int.toNat_natCast, toNat_add1] at h6
              all_goals try (first | contradiction | (exfalso; omega))
              all_goals (
                refine runs_seq ?_
                refine runs_keep [3, 1, 2] rfl ?_
                refine runs_region ?_
                first
                | refine ops_fl rfl rfl rfl (fl_field_blk ti31 rfl rfl rfl rfl ?_)
                | refine ops_fl rfl rfl rfl (fl_field_cp ti31 rfl rfl rfl rfl rfl ?_)
                first
                | refine ops_fl rfl rfl rfl (fl_load_blk ti29 rfl rfl rfl rfl rfl rfl rfl ?_)
                | refine ops_fl rfl rfl rfl (fl_load_cp ti29 rfl rfl rfl rfl rfl rfl ?_)
                first
                | refine ops_fl rfl rfl rfl (fl_index us29 te29 rfl rfl rfl rfl rfl (by omega) (rfl) ?_)
                | refine ops_fl rfl rfl rfl (fl_index_own us29 te29 rfl rfl rfl rfl rfl (by omega) (rfl) ?_)
                first
                | refine ops_fl rfl rfl rfl (fl_load_blk ti31 rfl rfl rfl rfl rfl rfl rfl ?_)
                | refine ops_fl rfl rfl rfl (fl_load_cp ti31 rfl rfl rfl rfl rfl rfl ?_)
                | refine ops_fl rfl rfl rfl (fl_load_all ti31 rfl rfl rfl rfl (by first | rfl | exact Lvl.cells_len _) ?_)
                refine ops_fl rfl rfl rfl (fl_move rfl rfl ?_)
                refine ops_fl rfl rfl rfl (fl_move rfl rfl ?_)
                refine ops_cons (T := fun _ => False) rfl (op_call ca12 rfl rfl rfl rfl (ihb (by omega)) (.cons (by first | exact .refl _ | exact .toD rfl | exact .nilD | exact .dle rfl (by repeat' (first | exact DLe.refl _ | exact DLe.nil | exact DLeL.nil | exact DLeLL.nil | apply DLe.agg | apply DLe.tup | apply DLe.sl | apply DLe.cp | apply DLeL.cons | apply DLeLL.cons))) (.cons (by first | exact .refl _ | exact .toD rfl | exact .nilD | exact .dle rfl (by repeat' (first | exact DLe.refl _ | exact DLe.nil | exact DLeL.nil | exact DLeLL.nil | apply DLe.agg | apply DLe.tup | apply DLe.sl | apply DLe.cp | apply DLeL.cons | apply DLeLL.cons))) (.cons (by first | exact .refl _ | exact .toD rfl | exact .nilD | exact .dle rfl (by repeat' (first | exact DLe.refl _ | exact DLe.nil | exact DLeL.nil | exact DLeLL.nil | apply DLe.agg | apply DLe.tup | apply DLe.sl | apply DLe.cp | apply DLeL.cons | apply DLeLL.cons))) .nil))) (fun d hd => ?_))
                obtain rfl := hd
                refine ops_fl rfl rfl rfl (fl_assign rfl rfl ?_)
                refine ops_nil ?_
                refine seq_normal ?_
                refine runs_seq ?_
                refine runs_seq ?_
                refine runs_keep [7, 3, 1, 2] rfl ?_
                refine runs_region ?_
                refine ops_fl rfl rfl rfl (fl_move rfl rfl ?_)
                refine ops_fl rfl rfl rfl (fl_eql rfl rfl rfl ?_)
                refine ops_nil ?_
                refine seq_normal ?_
                refine runs_cond rfl (fun h8 => ?_) (fun h8 => ?_)
                · try simp only [decide_eq_true_eq, decide_eq_false_iff_not, Bool.not_eq_true', Bool.not_eq_false', Bool.not_true, Bool.not_false, Int.not_lt, Int.not_le, Bool.and_eq_true, Bool.or_eq_true, Bool.and_eq_false_iff, Bool.or_eq_false_iff, Bool.false_eq_true, Bool.true_eq_false, not_true_eq_false, not_false_eq_true, decide_true, decide_false, true_and, and_true, false_and, and_false, true_or, or_true, false_or, or_false, Bool.true_and, Bool.false_and, Bool.and_true, Bool.and_false, Bool.true_or, Bool.false_or, Bool.or_true, Bool.or_false, Int.reduceEq, Int.reduceNe, Int.reduceLT, Int.reduceLE, Int.toNat_natCast, toNat_add1] at h8
                  all_goals try (first | contradiction | (exfalso; omega))
                  all_goals (
                    refine runs_seq ?_
                    refine runs_keep [] rfl ?_
                    refine runs_region ?_
                    refine ops_fl rfl rfl rfl (fl_assign rfl rfl ?_)
                    refine ops_nil ?_
                    refine seq_normal ?_
                    refine runs_ret ?_
                    refine seq_ret ?_
                    refine inb_ret ?_
                    refine seq_ret ?_
                    refine fin_ret ?_
                    refine fin_d1 rfl rfl ?_
                    rw [show (Lev.imax a b).worth (pval ps ns) = 0 by simp only [Lev.worth, h8, if_true]]
                  )
                · try simp only [decide_eq_true_eq, decide_eq_false_iff_not, Bool.not_eq_true', Bool.not_eq_false', Bool.not_true, Bool.not_false, Int.not_lt, Int.not_le, Bool.and_eq_true, Bool.or_eq_true, Bool.and_eq_false_iff, Bool.or_eq_false_iff, Bool.false_eq_true, Bool.true_eq_false, not_true_eq_false, not_false_eq_true, decide_true, decide_false, true_and, and_true, false_and, and_false, true_or, or_true, false_or, or_false, Bool.true_and, Bool.false_and, Bool.and_true, Bool.and_false, Bool.true_or, Bool.false_or, Bool.or_true, Bool.or_false, Int.reduceEq, Int.reduceNe, Int.reduceLT, Int.reduceLE, Int.toNat_natCast, toNat_add1] at h8
                  all_goals try (first | contradiction | (exfalso; omega))
                  all_goals (
                    refine runs_skip ?_
                    refine seq_normal ?_
                    refine runs_seq ?_
                    refine runs_region ?_
                    first
                    | refine ops_fl rfl rfl rfl (fl_field_blk ti31 rfl rfl rfl rfl ?_)
                    | refine ops_fl rfl rfl rfl (fl_field_cp ti31 rfl rfl rfl rfl rfl ?_)
                    first
                    | refine ops_fl rfl rfl rfl (fl_load_blk ti29 rfl rfl rfl rfl rfl rfl rfl ?_)
                    | refine ops_fl rfl rfl rfl (fl_load_cp ti29 rfl rfl rfl rfl rfl rfl ?_)
                    first
                    | refine ops_fl rfl rfl rfl (fl_index us29 te29 rfl rfl rfl rfl rfl (by omega) (rfl) ?_)
                    | refine ops_fl rfl rfl rfl (fl_index_own us29 te29 rfl rfl rfl rfl rfl (by omega) (rfl) ?_)
                    first
                    | refine ops_fl rfl rfl rfl (fl_load_blk ti31 rfl rfl rfl rfl rfl rfl rfl ?_)
                    | refine ops_fl rfl rfl rfl (fl_load_cp ti31 rfl rfl rfl rfl rfl rfl ?_)
                    | refine ops_fl rfl rfl rfl (fl_load_all ti31 rfl rfl rfl rfl (by first | rfl | exact Lvl.cells_len _) ?_)
                    refine ops_fl rfl rfl rfl (fl_move rfl rfl ?_)
                    refine ops_fl rfl rfl rfl (fl_move rfl rfl ?_)
                    refine ops_cons (T := fun _ => False) rfl (op_call ca12 rfl rfl rfl rfl (iha (by omega)) (.cons (by first | exact .refl _ | exact .toD rfl | exact .nilD | exact .dle rfl (by repeat' (first | exact DLe.refl _ | exact DLe.nil | exact DLeL.nil | exact DLeLL.nil | apply DLe.agg | apply DLe.tup | apply DLe.sl | apply DLe.cp | apply DLeL.cons | apply DLeLL.cons))) (.cons (by first | exact .refl _ | exact .toD rfl | exact .nilD | exact .dle rfl (by repeat' (first | exact DLe.refl _ | exact DLe.nil | exact DLeL.nil | exact DLeLL.nil | apply DLe.agg | apply DLe.tup | apply DLe.sl | apply DLe.cp | apply DLeL.cons | apply DLeLL.cons))) (.cons (by first | exact .refl _ | exact .toD rfl | exact .nilD | exact .dle rfl (by repeat' (first | exact DLe.refl _ | exact DLe.nil | exact DLeL.nil | exact DLeLL.nil | apply DLe.agg | apply DLe.tup | apply DLe.sl | apply DLe.cp | apply DLeL.cons | apply DLeLL.cons))) .nil))) (fun d hd => ?_))
                    obtain rfl := hd
                    refine ops_fl rfl rfl rfl (fl_move rfl rfl ?_)
                    refine ops_fl rfl rfl rfl (fl_max rfl rfl rfl ?_)
                    refine ops_fl rfl rfl rfl (fl_assign rfl rfl ?_)
                    refine ops_nil ?_
                    refine seq_normal ?_
                    refine runs_ret ?_
                    refine inb_ret ?_
                    refine seq_ret ?_
                    refine fin_ret ?_
                    refine fin_d1 rfl rfl ?_
                    rw [show (Lev.imax a b).worth (pval ps ns) = max (a.worth (pval ps ns)) (b.worth (pval ps ns)) by simp only [Lev.worth, h8, if_false]]
                  )
              )
            · try simp only [decide_eq_true_eq, decide_eq_false_iff_not, Bool.not_eq_true', Bool.not_eq_false', Bool.not_true, Bool.not_false, Int.not_lt, Int.not_le, Bool.and_eq_true, Bool.or_eq_true, Bool.and_eq_false_iff, Bool.or_eq_false_iff, Bool.false_eq_true, Bool.true_eq_false, not_true_eq_false, not_false_eq_true, decide_true, decide_false, true_and, and_true, false_and, and_false, true_or, or_true, false_or, or_false, Bool.true_and, Bool.false_and, Bool.and_true, Bool.and_false, Bool.true_or, Bool.false_or, Bool.or_true, Bool.or_false, Int.reduceEq, Int.reduceNe, Int.reduceLT, Int.reduceLE, Int.toNat_natCast, toNat_add1] at h6
              all_goals (first | contradiction | (exfalso; omega) | (exfalso; simp_all))
          )
      )
theorem psubst_spec (ps : List ByteArray) (ls : List Lvl) (hl : ps.length ≤ ls.length) (hl2 : ps.length ≤ 281474976710656) : ∀ (n : Nat) (k : Int) (s : ByteArray) (args : List Lvl), (Lvl.mk k s args).size ≤ n → (Lvl.mk k s args).size ≤ 1099511627776 →
    TriD Tryd.prog gl 20 [(Lvl.mk k s args).d, strsD ps, .sl 3 (lvls ls)] (· = ((Lvl.mk k s args).subst ps ls).d) := by
  have hlp := strs_len ps
  have hll := lvls_len ls
  intro n
  induction n with
  | zero => intro k s args h; simp [Lvl.size] at h
  | succ n ih =>
    intro k s args hn hb
    have hsz : sizes args ≤ n := by simp [Lvl.size] at hn; omega
    have hlen := lvls_len args
    have hlb := lvls_size args
    simp only [Lvl.size] at hb
    refine triD_of_runs Tryd.func20 rfl Tryd.ntmps20 (rs := [.cell 6 31]) rfl rfl rfl ?_
    refine runs_seq ?_
    refine runs_region ?_
    refine ops_cons (T := fun _ => False) rfl (op_box ti31 rfl rfl rfl rfl rfl (by simp only [List.length_cons, List.length_nil, Nat.reduceAdd]; rfl) rfl ?_)
    refine ops_cons (T := fun _ => False) rfl (op_alloc ti31 rfl rfl rfl rfl rfl (by simp only [List.length_cons, List.length_nil, Nat.reduceAdd]; rfl) rfl ?_)
    refine ops_nil ?_
    refine seq_normal ?_
    refine runs_seq ?_
    refine runs_seq ?_
    refine runs_region ?_
    first
    | refine ops_fl rfl rfl rfl (fl_field_blk ti31 rfl rfl rfl rfl ?_)
    | refine ops_fl rfl rfl rfl (fl_field_cp ti31 rfl rfl rfl rfl rfl ?_)
    first
    | refine ops_fl rfl rfl rfl (fl_load_blk ti3 rfl rfl rfl rfl rfl rfl rfl ?_)
    | refine ops_fl rfl rfl rfl (fl_load_cp ti3 rfl rfl rfl rfl rfl rfl ?_)
    refine ops_fl rfl rfl rfl (fl_eql rfl rfl rfl ?_)
    refine ops_nil ?_
    refine seq_normal ?_
    refine runs_cond rfl (fun h1 => ?_) (fun h1 => ?_)
    · try simp only [decide_eq_true_eq, decide_eq_false_iff_not, Bool.not_eq_true', Bool.not_eq_false', Bool.not_true, Bool.not_false, Int.not_lt, Int.not_le, Bool.and_eq_true, Bool.or_eq_true, Bool.and_eq_false_iff, Bool.or_eq_false_iff, Bool.false_eq_true, Bool.true_eq_false, not_true_eq_false, not_false_eq_true, decide_true, decide_false, true_and, and_true, false_and, and_false, true_or, or_true, false_or, or_false, Bool.true_and, Bool.false_and, Bool.and_true, Bool.and_false, Bool.true_or, Bool.false_or, Bool.or_true, Bool.or_false, Int.reduceEq, Int.reduceNe, Int.reduceLT, Int.reduceLE, Int.toNat_natCast, toNat_add1] at h1
      all_goals try (first | contradiction | (exfalso; omega))
      all_goals (
        refine runs_seq ?_
        refine runs_seq ?_
        refine runs_keep [6, 3, 1, 2] rfl ?_
        refine runs_region ?_
        refine ops_fl rfl rfl rfl (fl_move rfl rfl ?_)
        first
        | refine ops_fl rfl rfl rfl (fl_field_blk ti31 rfl rfl rfl rfl ?_)
        | refine ops_fl rfl rfl rfl (fl_field_cp ti31 rfl rfl rfl rfl rfl ?_)
        first
        | refine ops_fl rfl rfl rfl (fl_load_blk ti9 rfl rfl rfl rfl rfl rfl rfl ?_)
        | refine ops_fl rfl rfl rfl (fl_load_cp ti9 rfl rfl rfl rfl rfl rfl ?_)
        refine ops_cons (T := fun _ => False) rfl (op_call ca28 rfl rfl rfl rfl (index_spec ps s hl2) (.cons (by first | exact .refl _ | exact .toD rfl | exact .nilD | exact .dle rfl (by repeat' (first | exact DLe.refl _ | exact DLe.nil | exact DLeL.nil | exact DLeLL.nil | apply DLe.agg | apply DLe.tup | apply DLe.sl | apply DLe.cp | apply DLeL.cons | apply DLeLL.cons))) (.cons (by first | exact .refl _ | exact .toD rfl | exact .nilD | exact .dle rfl (by repeat' (first | exact DLe.refl _ | exact DLe.nil | exact DLeL.nil | exact DLeLL.nil | apply DLe.agg | apply DLe.tup | apply DLe.sl | apply DLe.cp | apply DLeL.cons | apply DLeLL.cons))) .nil)) (fun d hd => ?_))
        obtain rfl := hd
        refine ops_fl rfl rfl rfl (fl_assign rfl rfl ?_)
        refine ops_nil ?_
        refine seq_normal ?_
        refine runs_seq ?_
        refine runs_keep [7, 6, 3, 2] rfl ?_
        refine runs_region ?_
        refine ops_fl rfl rfl rfl (fl_move rfl rfl ?_)
        refine ops_fl rfl rfl rfl (fl_geq rfl rfl rfl ?_)
        refine ops_nil ?_
        refine seq_normal ?_
        refine runs_cond rfl (fun h3 => ?_) (fun h3 => ?_)
        · try simp only [decide_eq_true_eq, decide_eq_false_iff_not, Bool.not_eq_true', Bool.not_eq_false', Bool.not_true, Bool.not_false, Int.not_lt, Int.not_le, Bool.and_eq_true, Bool.or_eq_true, Bool.and_eq_false_iff, Bool.or_eq_false_iff, Bool.false_eq_true, Bool.true_eq_false, not_true_eq_false, not_false_eq_true, decide_true, decide_false, true_and, and_true, false_and, and_false, true_or, or_true, false_or, or_false, Bool.true_and, Bool.false_and, Bool.and_true, Bool.and_false, Bool.true_or, Bool.false_or, Bool.or_true, Bool.or_false, Int.reduceEq, Int.reduceNe, Int.reduceLT, Int.reduceLE, Int.toNat_natCast, toNat_add1] at h3
          all_goals try (first | contradiction | (exfalso; omega))
          all_goals (
            refine runs_seq ?_
            refine runs_region ?_
            refine ops_fl rfl rfl rfl (fl_move rfl rfl ?_)
            refine ops_fl rfl rfl rfl (fl_move rfl rfl ?_)
            rcases idxI_case ps s with ⟨_, hx⟩ | ⟨i, hi, hx1, hx2, hx⟩
            · omega
            obtain ⟨k', s', a', hget⟩ := lvl_get (show i < ls.length by omega)
            rw [hx]
            first
            | refine ops_fl rfl rfl rfl (fl_index us29 te29 rfl rfl rfl rfl rfl (by omega) (lvl_at hget) ?_)
            | refine ops_fl rfl rfl rfl (fl_index_own us29 te29 rfl rfl rfl rfl rfl (by omega) (lvl_at hget) ?_)
            first
            | refine ops_fl rfl rfl rfl (fl_load_blk ti31 rfl rfl rfl rfl rfl rfl rfl ?_)
            | refine ops_fl rfl rfl rfl (fl_load_cp ti31 rfl rfl rfl rfl rfl rfl ?_)
            | refine ops_fl rfl rfl rfl (fl_load_all ti31 rfl rfl rfl rfl (by first | rfl | exact Lvl.cells_len _) ?_)
            refine ops_cons rfl (op_store ti31 rfl rfl rfl rfl rfl rfl rfl rfl rfl rfl rfl ?_)
            refine ops_nil ?_
            refine seq_normal ?_
            refine runs_ret ?_
            refine seq_ret ?_
            refine seq_ret ?_
            refine fin_ret ?_
            refine fin_d ⟨_, _, rfl, (from_cell rfl rfl ti31 rfl rfl rfl rfl), rfl⟩ rfl ?_
            have hk : k = 4 := by omega
            have hf := findIdx_some hi hx1 hx2
            simp only [Lvl.subst, if_pos hk, hf, List.getD_eq_getElem?_getD, hget, Option.getD_some]
            rfl
          )
        · try simp only [decide_eq_true_eq, decide_eq_false_iff_not, Bool.not_eq_true', Bool.not_eq_false', Bool.not_true, Bool.not_false, Int.not_lt, Int.not_le, Bool.and_eq_true, Bool.or_eq_true, Bool.and_eq_false_iff, Bool.or_eq_false_iff, Bool.false_eq_true, Bool.true_eq_false, not_true_eq_false, not_false_eq_true, decide_true, decide_false, true_and, and_true, false_and, and_false, true_or, or_true, false_or, or_false, Bool.true_and, Bool.false_and, Bool.and_true, Bool.and_false, Bool.true_or, Bool.false_or, Bool.or_true, Bool.or_false, Int.reduceEq, Int.reduceNe, Int.reduceLT, Int.reduceLE, Int.toNat_natCast, toNat_add1] at h3
          all_goals try (first | contradiction | (exfalso; omega))
          all_goals (
            refine runs_skip ?_
            refine seq_normal ?_
            refine runs_seq ?_
            refine runs_keep [6, 3] rfl ?_
            refine runs_region ?_
            first
            | refine ops_fl rfl rfl rfl (fl_load_blk ti31 rfl rfl rfl rfl rfl rfl rfl ?_)
            | refine ops_fl rfl rfl rfl (fl_load_cp ti31 rfl rfl rfl rfl rfl rfl ?_)
            | refine ops_fl rfl rfl rfl (fl_load_all ti31 rfl rfl rfl rfl (by first | rfl | exact Lvl.cells_len _) ?_)
            refine ops_cons rfl (op_store ti31 rfl rfl rfl rfl rfl rfl rfl rfl rfl rfl rfl ?_)
            refine ops_nil ?_
            refine seq_normal ?_
            refine runs_ret ?_
            refine seq_ret ?_
            refine fin_ret ?_
            refine fin_d ⟨_, _, rfl, (from_cell rfl rfl ti31 rfl rfl rfl rfl), rfl⟩ rfl ?_
            have hk : k = 4 := by omega
            rcases idxI_case ps s with ⟨hx, _⟩ | ⟨i, hi, hx1, hx2, hx⟩
            · simp only [Lvl.subst, if_pos hk, findIdx_none hx]
              rfl
            · omega
          )
      )
    · try simp only [decide_eq_true_eq, decide_eq_false_iff_not, Bool.not_eq_true', Bool.not_eq_false', Bool.not_true, Bool.not_false, Int.not_lt, Int.not_le, Bool.and_eq_true, Bool.or_eq_true, Bool.and_eq_false_iff, Bool.or_eq_false_iff, Bool.false_eq_true, Bool.true_eq_false, not_true_eq_false, not_false_eq_true, decide_true, decide_false, true_and, and_true, false_and, and_false, true_or, or_true, false_or, or_false, Bool.true_and, Bool.false_and, Bool.and_true, Bool.and_false, Bool.true_or, Bool.false_or, Bool.or_true, Bool.or_false, Int.reduceEq, Int.reduceNe, Int.reduceLT, Int.reduceLE, Int.toNat_natCast, toNat_add1] at h1
      all_goals try (first | contradiction | (exfalso; omega))
      all_goals (
        refine runs_skip ?_
        refine seq_normal ?_
        refine runs_seq ?_
        refine runs_keep [6, 3, 1, 2] rfl ?_
        refine runs_region ?_
        first
        | refine ops_fl rfl rfl rfl (fl_load_blk ti31 rfl rfl rfl rfl rfl rfl rfl ?_)
        | refine ops_fl rfl rfl rfl (fl_load_cp ti31 rfl rfl rfl rfl rfl rfl ?_)
        | refine ops_fl rfl rfl rfl (fl_load_all ti31 rfl rfl rfl rfl (by first | rfl | exact Lvl.cells_len _) ?_)
        refine ops_cons (T := fun _ => False) rfl (op_alloc ti31 rfl rfl rfl rfl rfl (by simp only [List.length_cons, List.length_nil, Nat.reduceAdd]; rfl) rfl ?_)
        refine ops_cons rfl (op_store ti31 rfl rfl rfl rfl rfl rfl rfl rfl rfl rfl rfl ?_)
        refine ops_nil ?_
        refine seq_normal ?_
        refine runs_seq ?_
        refine runs_region ?_
        first
        | refine ops_fl rfl rfl rfl (fl_field_blk ti31 rfl rfl rfl rfl ?_)
        | refine ops_fl rfl rfl rfl (fl_field_cp ti31 rfl rfl rfl rfl rfl ?_)
        refine ops_cons rfl (op_store ti29 rfl rfl rfl rfl rfl rfl rfl rfl rfl rfl rfl ?_)
        refine ops_nil ?_
        refine seq_normal ?_
        refine runs_seq ?_
        refine runs_seq ?_
        refine runs_region ?_
        first
        | refine ops_fl rfl rfl rfl (fl_field_blk ti31 rfl rfl rfl rfl ?_)
        | refine ops_fl rfl rfl rfl (fl_field_cp ti31 rfl rfl rfl rfl rfl ?_)
        first
        | refine ops_fl rfl rfl rfl (fl_load_blk ti29 rfl rfl rfl rfl rfl rfl rfl ?_)
        | refine ops_fl rfl rfl rfl (fl_load_cp ti29 rfl rfl rfl rfl rfl rfl ?_)
        first
        | refine ops_fl rfl rfl rfl (fl_len us29 rfl rfl ?_)
        | refine ops_fl rfl rfl rfl (fl_len_own us29 rfl rfl ?_)
        | refine ops_fl rfl rfl rfl (fl_len_nil us29 rfl rfl ?_)
        refine ops_fl rfl rfl rfl (fl_move rfl rfl ?_)
        refine ops_nil ?_
        refine seq_normal ?_
        refine runs_block ?_
        refine runs_keep [30, 29, 28, 8, 6, 1, 2] rfl ?_
        refine runs_nilrow 31 3 rfl ?_
        apply runs_loop_o (ι := Nat) (fun i => [(30, int i)]) (fun i => [.cells [.d (.v (.int .i64 k)), .d (.v (.string s)), .d (.sl 3 (lvls args))] 31, .cells [.d (.v (.int .i64 0)), .d (.v (.string .empty)), .d (.v (.slice none 0 0))] 31, .cells [.d (.v (.int .i64 k)), .d (.v (.string s)), .own 3 3 (lvls (substL ps ls (args.take i)))] 31, .row 31 3]) [29, 28, 8, 6, 1, 2] (fun i => i ≤ args.length) (fun i => args.length - i) (0) ([0, 1, 2, 3])
        case hk => exact rfl
        case hI =>
          exact Nat.zero_le _
        case hm =>
          refine meets_of rfl rfl rfl ?_ (.cons rfl (by first | exact .refl _ | exact .toD rfl | exact .nilD | exact Fit.of_eq rfl | exact .dle rfl (by repeat' (first | exact DLe.refl _ | exact DLe.nil | exact DLeL.nil | exact DLeLL.nil | apply DLe.agg | apply DLe.tup | apply DLe.sl | apply DLe.cp | apply DLeL.cons | apply DLeLL.cons))) (.cons rfl (by first | exact .refl _ | exact .toD rfl | exact .nilD | exact Fit.of_eq rfl | exact .dle rfl (by repeat' (first | exact DLe.refl _ | exact DLe.nil | exact DLeL.nil | exact DLeLL.nil | apply DLe.agg | apply DLe.tup | apply DLe.sl | apply DLe.cp | apply DLeL.cons | apply DLeLL.cons))) (.cons rfl (by first | exact .refl _ | exact .toD rfl | exact .nilD | exact Fit.of_eq rfl | exact .dle rfl (by repeat' (first | exact DLe.refl _ | exact DLe.nil | exact DLeL.nil | exact DLeLL.nil | apply DLe.agg | apply DLe.tup | apply DLe.sl | apply DLe.cp | apply DLeL.cons | apply DLeLL.cons))) (.cons rfl (by first | exact .refl _ | exact .toD rfl | exact .nilD | exact Fit.of_eq rfl | exact .dle rfl (by repeat' (first | exact DLe.refl _ | exact DLe.nil | exact DLeL.nil | exact DLeLL.nil | apply DLe.agg | apply DLe.tup | apply DLe.sl | apply DLe.cp | apply DLeL.cons | apply DLeLL.cons))) (.cons rfl (by first | exact .refl _ | exact .toD rfl | exact .nilD | exact Fit.of_eq rfl | exact .dle rfl (by repeat' (first | exact DLe.refl _ | exact DLe.nil | exact DLeL.nil | exact DLeLL.nil | apply DLe.agg | apply DLe.tup | apply DLe.sl | apply DLe.cp | apply DLeL.cons | apply DLeLL.cons))) (.cons rfl (by first | exact .refl _ | exact .toD rfl | exact .nilD | exact Fit.of_eq rfl | exact .dle rfl (by repeat' (first | exact DLe.refl _ | exact DLe.nil | exact DLeL.nil | exact DLeLL.nil | apply DLe.agg | apply DLe.tup | apply DLe.sl | apply DLe.cp | apply DLeL.cons | apply DLeLL.cons))) (.cons rfl (by first | exact .refl _ | exact .toD rfl | exact .nilD | exact Fit.of_eq rfl | exact .dle rfl (by repeat' (first | exact DLe.refl _ | exact DLe.nil | exact DLeL.nil | exact DLeLL.nil | apply DLe.agg | apply DLe.tup | apply DLe.sl | apply DLe.cp | apply DLeL.cons | apply DLeLL.cons))) .nil)))))))
          repeat (first | exact .nil | refine .cons rfl (.cells rfl (FitL.rfl _)) ?_ | refine .cons rfl (.cells rfl (by repeat (first | exact .nil | refine .cons (by first | exact .refl _ | exact .toD rfl | exact .nil rfl | exact .nilD | exact Fit.of_eq rfl) ?_))) ?_ | refine .cons rfl .row ?_ | refine .cons rfl .mapI ?_ | refine .cons rfl .nnrow ?_ | refine .cons rfl .nrow ?_ | refine .cons rfl .dead ?_)
        case h =>
          rintro i hinv
          try dsimp only at hinv
          refine runs_keep [30, 29, 28, 8, 6, 1, 2] rfl ?_
          refine runs_seq ?_
          refine runs_region ?_
          refine ops_fl rfl rfl rfl (fl_lss rfl rfl rfl ?_)
          refine ops_nil ?_
          refine seq_normal ?_
          refine runs_seq ?_
          refine runs_cond rfl (fun h9 => ?_) (fun h9 => ?_)
          · try simp only [decide_eq_true_eq, decide_eq_false_iff_not, Bool.not_eq_true', Bool.not_eq_false', Bool.not_true, Bool.not_false, Int.not_lt, Int.not_le, Bool.and_eq_true, Bool.or_eq_true, Bool.and_eq_false_iff, Bool.or_eq_false_iff, Bool.false_eq_true, Bool.true_eq_false, not_true_eq_false, not_false_eq_true, decide_true, decide_false, true_and, and_true, false_and, and_false, true_or, or_true, false_or, or_false, Bool.true_and, Bool.false_and, Bool.and_true, Bool.and_false, Bool.true_or, Bool.false_or, Bool.or_true, Bool.or_false, Int.reduceEq, Int.reduceNe, Int.reduceLT, Int.reduceLE, Int.toNat_natCast, toNat_add1] at h9
            all_goals try (first | contradiction | (exfalso; omega))
            all_goals (
              refine runs_skip ?_
              refine seq_normal ?_
              refine runs_seq ?_
              refine runs_block ?_
              refine runs_seq ?_
              obtain ⟨k', s', a', hget⟩ := lvl_get (show i < args.length by omega)
              obtain ⟨k2, s2, a2, hs2⟩ := Lvl.case ((Lvl.mk k' s' a').subst ps ls)
              have hsz' := size_get hget
              have hlast : lvls (substL ps ls (args.take i)) ++ [[.v (.int .i64 k2), .v (.string s2), .sl 3 (lvls a2)]] = lvls (substL ps ls (args.take (i + 1))) := by
                rw [substL_take hget, lvls_app, hs2]; rfl
              have hll2 := lvls_len (substL ps ls (args.take i))
              have hll3 := substL_len ps ls (args.take i)
              simp only [List.length_take] at hll3
              refine runs_region ?_
              first
              | refine ops_fl rfl rfl rfl (fl_index us29 te29 rfl rfl rfl rfl rfl (by omega) (lvl_at hget) ?_)
              | refine ops_fl rfl rfl rfl (fl_index_own us29 te29 rfl rfl rfl rfl rfl (by omega) (lvl_at hget) ?_)
              first
              | refine ops_fl rfl rfl rfl (fl_load_blk ti31 rfl rfl rfl rfl rfl rfl rfl ?_)
              | refine ops_fl rfl rfl rfl (fl_load_cp ti31 rfl rfl rfl rfl rfl rfl ?_)
              | refine ops_fl rfl rfl rfl (fl_load_all ti31 rfl rfl rfl rfl (by first | rfl | exact Lvl.cells_len _) ?_)
              refine ops_cons (T := fun _ => False) rfl (op_alloc ti31 rfl rfl rfl rfl rfl (by simp only [List.length_cons, List.length_nil, Nat.reduceAdd]; rfl) rfl ?_)
              refine ops_cons rfl (op_store ti31 rfl rfl rfl rfl rfl rfl rfl rfl rfl rfl rfl ?_)
              refine ops_nil ?_
              refine seq_normal ?_
              refine any_start mixed rfl rfl ?_
              first
              | refine any_fl 0 rfl rfl rfl rfl (by kernel_rfl) rfl (fl_field_blk ti31 rfl rfl rfl rfl ⟨_, rfl, ?_⟩)
              | refine any_fl 0 rfl rfl rfl rfl (by kernel_rfl) rfl (fl_field_cp ti31 rfl rfl rfl rfl rfl ⟨_, rfl, ?_⟩)
              first
              | refine any_fl 1 rfl rfl rfl rfl (by kernel_rfl) rfl (fl_load_blk ti29 rfl rfl rfl rfl rfl rfl rfl ⟨_, rfl, ?_⟩)
              | refine any_fl 1 rfl rfl rfl rfl (by kernel_rfl) rfl (fl_load_cp ti29 rfl rfl rfl rfl rfl rfl ⟨_, rfl, ?_⟩)
              first
              | refine any_fl 2 rfl rfl rfl rfl (by kernel_rfl) rfl (fl_load_blk ti31 rfl rfl rfl rfl rfl rfl rfl ⟨_, rfl, ?_⟩)
              | refine any_fl 2 rfl rfl rfl rfl (by kernel_rfl) rfl (fl_load_cp ti31 rfl rfl rfl rfl rfl rfl ⟨_, rfl, ?_⟩)
              | refine any_fl 2 rfl rfl rfl rfl (by kernel_rfl) rfl (fl_load_all ti31 rfl rfl rfl rfl (by first | rfl | exact Lvl.cells_len _) ⟨_, rfl, ?_⟩)
              refine any_fl 3 rfl rfl rfl rfl (by kernel_rfl) rfl (fl_move rfl rfl ⟨_, rfl, ?_⟩)
              refine any_fl 4 rfl rfl rfl rfl (by kernel_rfl) rfl (fl_move rfl rfl ⟨_, rfl, ?_⟩)
              refine any_st (T := fun _ => False) 5 rfl rfl (by kernel_rfl) rfl rfl (by intro p hp; simp only [List.mem_cons, List.not_mem_nil, or_false] at hp; all_goals (first | exact hp.elim | (subst hp; exact ⟨by simp, _, _, rfl⟩) | (rcases hp with rfl | rfl <;> exact ⟨by simp, _, _, rfl⟩) | (rcases hp with rfl | rfl | rfl <;> exact ⟨by simp, _, _, rfl⟩) | (rcases hp with rfl | rfl | rfl | rfl <;> exact ⟨by simp, _, _, rfl⟩) | (rcases hp with rfl | rfl | rfl | rfl | rfl <;> exact ⟨by simp, _, _, rfl⟩))) (op_call ca20 rfl rfl rfl rfl (ih k' s' a' (by omega) (by omega)) (.cons (by first | exact .refl _ | exact .toD rfl | exact .nilD | exact .dle rfl (by repeat' (first | exact DLe.refl _ | exact DLe.nil | exact DLeL.nil | exact DLeLL.nil | apply DLe.agg | apply DLe.tup | apply DLe.sl | apply DLe.cp | apply DLeL.cons | apply DLeLL.cons))) (.cons (by first | exact .refl _ | exact .toD rfl | exact .nilD | exact .dle rfl (by repeat' (first | exact DLe.refl _ | exact DLe.nil | exact DLeL.nil | exact DLeLL.nil | apply DLe.agg | apply DLe.tup | apply DLe.sl | apply DLe.cp | apply DLeL.cons | apply DLeLL.cons))) (.cons (by first | exact .refl _ | exact .toD rfl | exact .nilD | exact .dle rfl (by repeat' (first | exact DLe.refl _ | exact DLe.nil | exact DLeL.nil | exact DLeLL.nil | apply DLe.agg | apply DLe.tup | apply DLe.sl | apply DLe.cp | apply DLeL.cons | apply DLeLL.cons))) .nil))) (fun d hd => ?_))
              rw [hs2] at hd; obtain rfl := hd
              refine any_st (T := fun _ => False) 6 rfl rfl (by kernel_rfl) rfl rfl (by intro p hp; simp only [List.mem_cons, List.not_mem_nil, or_false] at hp; all_goals (first | exact hp.elim | (subst hp; exact ⟨by simp, _, _, rfl⟩) | (rcases hp with rfl | rfl <;> exact ⟨by simp, _, _, rfl⟩) | (rcases hp with rfl | rfl | rfl <;> exact ⟨by simp, _, _, rfl⟩) | (rcases hp with rfl | rfl | rfl | rfl <;> exact ⟨by simp, _, _, rfl⟩) | (rcases hp with rfl | rfl | rfl | rfl | rfl <;> exact ⟨by simp, _, _, rfl⟩))) (op_lit sl29 [.tmp 39] ti31 rfl rfl rfl rfl rfl rfl rfl (by decide) (by decide) (by decide) (by simp only [List.length_cons, List.length_nil, Nat.reduceAdd]; rfl) rfl ?_)
              refine any_st 7 rfl rfl (by kernel_rfl) rfl rfl (by intro p hp; simp only [List.mem_cons, List.not_mem_nil, or_false] at hp; all_goals (first | exact hp.elim | (subst hp; exact ⟨by simp, _, _, rfl⟩) | (rcases hp with rfl | rfl <;> exact ⟨by simp, _, _, rfl⟩) | (rcases hp with rfl | rfl | rfl <;> exact ⟨by simp, _, _, rfl⟩) | (rcases hp with rfl | rfl | rfl | rfl <;> exact ⟨by simp, _, _, rfl⟩) | (rcases hp with rfl | rfl | rfl | rfl | rfl <;> exact ⟨by simp, _, _, rfl⟩))) (op_append sl29 rfl rfl rfl rfl rfl rfl rfl (.inl rfl) (by decide) (by simp) (by first | decide | (simp only [maxLen, List.length_cons, List.length_nil, List.length_append, List.length_map]; omega) | omega) rfl rfl rfl ?_)
              first
              | refine any_fl 8 rfl rfl rfl rfl (by kernel_rfl) rfl (fl_field_blk ti31 rfl rfl rfl rfl ⟨_, rfl, ?_⟩)
              | refine any_fl 8 rfl rfl rfl rfl (by kernel_rfl) rfl (fl_field_cp ti31 rfl rfl rfl rfl rfl ⟨_, rfl, ?_⟩)
              refine any_st 9 rfl rfl (by kernel_rfl) rfl rfl (by intro p hp; simp only [List.mem_cons, List.not_mem_nil, or_false] at hp; all_goals (first | exact hp.elim | (subst hp; exact ⟨by simp, _, _, rfl⟩) | (rcases hp with rfl | rfl <;> exact ⟨by simp, _, _, rfl⟩) | (rcases hp with rfl | rfl | rfl <;> exact ⟨by simp, _, _, rfl⟩) | (rcases hp with rfl | rfl | rfl | rfl <;> exact ⟨by simp, _, _, rfl⟩) | (rcases hp with rfl | rfl | rfl | rfl | rfl <;> exact ⟨by simp, _, _, rfl⟩))) (op_store ti29 rfl rfl rfl rfl rfl rfl rfl rfl rfl rfl rfl ?_)
              refine any_end (by kernel_rfl) ?_
              refine inb_normal ?_
              refine seq_normal ?_
              refine runs_keep [30, 29, 28, 8, 6, 1, 2] rfl ?_
              refine runs_region ?_
              refine ops_fl rfl rfl rfl (fl_add rfl rfl rfl (by omega) ?_)
              refine ops_fl rfl rfl rfl (fl_move rfl rfl ?_)
              refine ops_nil ?_
              refine seq_back ?_
              rw [hlast]
              refine back_c (i + 1) rfl ?_ ([0, 1, 2, 3]) ?_
              · exact ⟨by omega, by omega⟩
              · refine meets_of rfl rfl rfl ?_ (.cons rfl (by first | exact .refl _ | exact .toD rfl | exact .nilD | exact Fit.of_eq rfl | exact .dle rfl (by repeat' (first | exact DLe.refl _ | exact DLe.nil | exact DLeL.nil | exact DLeLL.nil | apply DLe.agg | apply DLe.tup | apply DLe.sl | apply DLe.cp | apply DLeL.cons | apply DLeLL.cons))) (.cons rfl (by first | exact .refl _ | exact .toD rfl | exact .nilD | exact Fit.of_eq rfl | exact .dle rfl (by repeat' (first | exact DLe.refl _ | exact DLe.nil | exact DLeL.nil | exact DLeLL.nil | apply DLe.agg | apply DLe.tup | apply DLe.sl | apply DLe.cp | apply DLeL.cons | apply DLeLL.cons))) (.cons rfl (by first | exact .refl _ | exact .toD rfl | exact .nilD | exact Fit.of_eq rfl | exact .dle rfl (by repeat' (first | exact DLe.refl _ | exact DLe.nil | exact DLeL.nil | exact DLeLL.nil | apply DLe.agg | apply DLe.tup | apply DLe.sl | apply DLe.cp | apply DLeL.cons | apply DLeLL.cons))) (.cons rfl (by first | exact .refl _ | exact .toD rfl | exact .nilD | exact Fit.of_eq rfl | exact .dle rfl (by repeat' (first | exact DLe.refl _ | exact DLe.nil | exact DLeL.nil | exact DLeLL.nil | apply DLe.agg | apply DLe.tup | apply DLe.sl | apply DLe.cp | apply DLeL.cons | apply DLeLL.cons))) (.cons rfl (by first | exact .refl _ | exact .toD rfl | exact .nilD | exact Fit.of_eq rfl | exact .dle rfl (by repeat' (first | exact DLe.refl _ | exact DLe.nil | exact DLeL.nil | exact DLeLL.nil | apply DLe.agg | apply DLe.tup | apply DLe.sl | apply DLe.cp | apply DLeL.cons | apply DLeLL.cons))) (.cons rfl (by first | exact .refl _ | exact .toD rfl | exact .nilD | exact Fit.of_eq rfl | exact .dle rfl (by repeat' (first | exact DLe.refl _ | exact DLe.nil | exact DLeL.nil | exact DLeLL.nil | apply DLe.agg | apply DLe.tup | apply DLe.sl | apply DLe.cp | apply DLeL.cons | apply DLeLL.cons))) (.cons rfl (by first | exact .refl _ | exact .toD rfl | exact .nilD | exact Fit.of_eq rfl | exact .dle rfl (by repeat' (first | exact DLe.refl _ | exact DLe.nil | exact DLeL.nil | exact DLeLL.nil | apply DLe.agg | apply DLe.tup | apply DLe.sl | apply DLe.cp | apply DLeL.cons | apply DLeLL.cons))) .nil)))))))
                repeat (first | exact .nil | refine .cons rfl (.cells rfl (FitL.rfl _)) ?_ | refine .cons rfl (.cells rfl (by repeat (first | exact .nil | refine .cons (by first | exact .refl _ | exact .toD rfl | exact .nil rfl | exact .nilD | exact Fit.of_eq rfl) ?_))) ?_ | refine .cons rfl .row ?_ | refine .cons rfl .mapI ?_ | refine .cons rfl .nnrow ?_ | refine .cons rfl .nrow ?_ | refine .cons rfl .dead ?_)
            )
          · try simp only [decide_eq_true_eq, decide_eq_false_iff_not, Bool.not_eq_true', Bool.not_eq_false', Bool.not_true, Bool.not_false, Int.not_lt, Int.not_le, Bool.and_eq_true, Bool.or_eq_true, Bool.and_eq_false_iff, Bool.or_eq_false_iff, Bool.false_eq_true, Bool.true_eq_false, not_true_eq_false, not_false_eq_true, decide_true, decide_false, true_and, and_true, false_and, and_false, true_or, or_true, false_or, or_false, Bool.true_and, Bool.false_and, Bool.and_true, Bool.and_false, Bool.true_or, Bool.false_or, Bool.or_true, Bool.or_false, Int.reduceEq, Int.reduceNe, Int.reduceLT, Int.reduceLE, Int.toNat_natCast, toNat_add1] at h9
            all_goals try (first | contradiction | (exfalso; omega))
            all_goals (
              refine runs_exit ?_
              refine seq_exit ?_
              refine seq_exit ?_
              refine inb_exit ?_
              refine seq_normal ?_
              refine runs_seq ?_
              refine runs_keep [8, 6] rfl ?_
              refine runs_region ?_
              first
              | refine ops_fl rfl rfl rfl (fl_load_blk ti31 rfl rfl rfl rfl rfl rfl rfl ?_)
              | refine ops_fl rfl rfl rfl (fl_load_cp ti31 rfl rfl rfl rfl rfl rfl ?_)
              | refine ops_fl rfl rfl rfl (fl_load_all ti31 rfl rfl rfl rfl (by first | rfl | exact Lvl.cells_len _) ?_)
              refine ops_cons rfl (op_store ti31 rfl rfl rfl rfl rfl rfl rfl rfl rfl rfl rfl ?_)
              refine ops_nil ?_
              refine seq_normal ?_
              refine runs_ret ?_
              refine fin_ret ?_
              refine fin_d ⟨_, _, rfl, (from_cell rfl rfl ti31 rfl rfl rfl rfl), rfl⟩ rfl ?_
              have hk : ¬ k = 4 := by omega
              simp only [Lvl.subst, if_neg hk]
              rw [List.take_of_length_le (by omega)]
              rfl
            )
      )
end Go.Proofs.YtafhnnbbfgoacaaDoor
