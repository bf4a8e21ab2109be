/-
  What is proved here: contracts of the reference's reader: level, ParseLevel.
-/
import Derived.Test.YtafhnnbbfgoacaaDoorYR6
set_option linter.unusedSimpArgs false
set_option linter.unusedVariables false
namespace Go.Proofs.YtafhnnbbfgoacaaDoor
open Go Go.Vd Go.RowKit
attribute [local irreducible] Runs OpsR OpR FloatR AnyR
variable {gl : Nat → List D}

theorem level_spec (s : ByteArray) (hs : s.size ≤ 1099511627776) : ∀ (n : Nat) (r : RS), r.p ≤ s.size → s.size - r.p < n →
    Tri Tryd.prog gl 25 [rdO s r] [.blk 0 0] fun out ob' => out = .ret (.d (levelR n s r).1.d) ∧ ob' = [rdO s (levelR n s r).2] := by
  intro n
  induction n with
  | zero => intro r _ h; omega
  | succ n ih =>
    intro r hp hn
    have hat := tokR_at (s := s) hp
    obtain ⟨p, f⟩ := r
    simp only at hat hp hn
    cases f with
    | some a =>
      refine triS_of_runs Tryd.func25 rfl Tryd.ntmps25 (rs := [.cell 2 31]) rfl rfl rfl 1 rfl ?_
      refine runs_seq ?_
      refine runs_region ?_
      refine ops_cons (T := fun _ => False) rfl (op_alloc ti31 rfl rfl rfl rfl rfl (by simp only [List.length_cons, List.length_nil, Nat.reduceAdd]; rfl) rfl ?_)
      refine ops_nil ?_
      refine seq_normal ?_
      refine runs_seq ?_
      refine runs_region ?_
      refine ops_fl rfl rfl rfl (fl_move rfl rfl ?_)
      refine ops_cons rfl (op_callo ca41 rfl rfl rfl rfl (token_spec s p (fcode (some a)) (fat (some a)) hs hp) [0] (.cons rfl (by first | exact .cells rfl (FitL.rfl _) | exact .row | exact .nrow | exact .mapI | exact .nnrow | (refine .cells rfl ?_; repeat (first | exact .nil | refine .cons (by first | exact .refl _ | exact .toD rfl | exact .nil rfl | exact .nilD) ?_))) .nil) rfl rfl rfl rfl (.cons (by first | exact .refl _ | exact .toD rfl | exact .nil rfl | exact .nilD | exact .dle rfl (by repeat' (first | exact DLe.refl _ | exact DLe.nil | exact DLeL.nil | exact DLeLL.nil | apply DLe.agg | apply DLe.tup | apply DLe.sl | apply DLe.cp | apply DLeL.cons | apply DLeLL.cons))) .nil) (fun s ob' hq => ?_) (fun s ob' hq => ?_))
      rotate_left
      · first | exact hq.elim | cases hq.1
      obtain ⟨hq1, rfl⟩ := hq
      cases hq1
      refine ⟨_, _, _, _, _, rfl, rfl, rfl, rfl, rfl, ?_⟩
      refine ops_fl rfl rfl rfl (fl_move rfl rfl ?_)
      first
      | refine ops_fl rfl rfl rfl (fl_extract rfl rfl rfl ?_)
      | refine ops_fl rfl rfl rfl (fl_extract_d rfl rfl rfl ?_)
      first
      | refine ops_fl rfl rfl rfl (fl_extract rfl rfl rfl ?_)
      | refine ops_fl rfl rfl rfl (fl_extract_d rfl rfl rfl ?_)
      first
      | refine ops_fl rfl rfl rfl (fl_extract rfl rfl rfl ?_)
      | refine ops_fl rfl rfl rfl (fl_extract_d rfl rfl rfl ?_)
      refine ops_fl rfl rfl rfl (fl_assign rfl rfl ?_)
      refine ops_fl rfl rfl rfl (fl_assign rfl rfl ?_)
      refine ops_fl rfl rfl rfl (fl_assign rfl rfl ?_)
      refine ops_nil ?_
      refine seq_normal ?_
      refine runs_seq ?_
      refine runs_keep [4, 3, 2, 0] rfl ?_
      refine runs_region ?_
      refine ops_fl rfl rfl rfl (fl_move rfl rfl ?_)
      refine ops_cons (T := fun _ => False) rfl (op_call ca42 rfl rfl rfl rfl (isName_spec (tokR s p).1) (.cons (by first | exact .refl _ | exact .toD rfl | exact .nilD | exact .dle rfl (by repeat' (first | exact DLe.refl _ | exact DLe.nil | exact DLeL.nil | exact DLeLL.nil | apply DLe.agg | apply DLe.tup | apply DLe.sl | apply DLe.cp | apply DLeL.cons | apply DLeLL.cons))) .nil) (fun d hd => ?_))
      obtain rfl := hd
      refine ops_fl rfl rfl rfl (fl_assign rfl rfl ?_)
      refine ops_nil ?_
      refine seq_normal ?_
      refine runs_seq ?_
      refine runs_block ?_
      refine runs_seq ?_
      refine runs_region ?_
      refine ops_fl rfl rfl rfl (fl_move rfl rfl ?_)
      first
      | refine ops_fl rfl rfl rfl (fl_nil_blk rfl rfl ?_)
      | refine ops_fl rfl rfl rfl (fl_nil_cp rfl rfl ?_)
      first
      | refine ops_fl rfl rfl rfl (fl_field_blk ti53 rfl rfl rfl rfl ?_)
      | refine ops_fl rfl rfl rfl (fl_field_cp ti53 rfl rfl rfl rfl rfl ?_)
      first
      | refine ops_fl rfl rfl rfl (fl_field_blk ti33 rfl rfl rfl rfl ?_)
      | refine ops_fl rfl rfl rfl (fl_field_cp ti33 rfl rfl rfl rfl rfl ?_)
      first
      | refine ops_fl rfl rfl rfl (fl_load_blk ti3 rfl rfl rfl rfl rfl rfl rfl ?_)
      | refine ops_fl rfl rfl rfl (fl_load_cp ti3 rfl rfl rfl rfl rfl rfl ?_)
      refine ops_fl rfl rfl rfl (fl_neq rfl rfl rfl ?_)
      refine ops_fl rfl rfl rfl (fl_assign rfl rfl ?_)
      refine ops_nil ?_
      refine seq_normal ?_
      refine runs_cond rfl (fun h4 => ?_) (fun h4 => ?_)
      · try simp only [decide_eq_true_eq, decide_eq_false_iff_not, Bool.not_eq_true', Bool.not_eq_false', Bool.not_true, Bool.not_false, Int.not_lt, Int.not_le, Bool.and_eq_true, Bool.or_eq_true, Bool.and_eq_false_iff, Bool.or_eq_false_iff, Bool.false_eq_true, Bool.true_eq_false, not_true_eq_false, not_false_eq_true, decide_true, decide_false, true_and, and_true, false_and, and_false, true_or, or_true, false_or, or_false, Bool.true_and, Bool.false_and, Bool.and_true, Bool.and_false, Bool.true_or, Bool.false_or, Bool.or_true, Bool.or_false, Int.reduceEq, Int.reduceNe, Int.reduceLT, Int.reduceLE, Int.toNat_natCast, toNat_add1, fcode, fat] at h4
        all_goals try (first | contradiction | (exfalso; omega))
        all_goals (
          refine runs_skip ?_
          refine inb_normal ?_
          refine seq_normal ?_
          refine runs_seq ?_
          refine runs_keep [2] rfl ?_
          refine runs_region ?_
          refine ops_fl rfl rfl rfl (fl_build ti31 rfl rfl rfl rfl rfl rfl rfl ?_)
          refine ops_cons rfl (op_store ti31 rfl rfl rfl rfl rfl rfl rfl rfl rfl rfl rfl ?_)
          refine ops_nil ?_
          refine seq_normal ?_
          refine runs_ret ?_
          refine fin_ret ?_
          refine fin_odl ⟨_, _, rfl, (from_cell rfl rfl ti31 rfl rfl rfl rfl), rfl⟩ rfl (zeroL.d) (by repeat' (first | exact DLe.refl _ | exact DLe.nil | exact DLeL.nil | exact DLeLL.nil | apply DLe.agg | apply DLe.tup | apply DLe.sl | apply DLe.cp | apply DLeL.cons | apply DLeLL.cons)) ([0]) ([rdO s ⟨p, some a⟩]) rfl rfl rfl ?_ ?_
          · repeat (first | exact .nil | refine .cons rfl (.cells rfl (FitL.rfl _)) ?_ | refine .cons rfl .row ?_ | refine .cons rfl .mapI ?_ | refine .cons rfl .nnrow ?_ | refine .cons rfl .nrow ?_ | refine .cons rfl .dead ?_ | refine .cons rfl (.cells rfl ?_) ?_ | refine .cons (by first | exact .refl _ | exact .toD rfl | exact .nilD) ?_)
          · exact ⟨rfl, rfl⟩
        )
      · try simp only [decide_eq_true_eq, decide_eq_false_iff_not, Bool.not_eq_true', Bool.not_eq_false', Bool.not_true, Bool.not_false, Int.not_lt, Int.not_le, Bool.and_eq_true, Bool.or_eq_true, Bool.and_eq_false_iff, Bool.or_eq_false_iff, Bool.false_eq_true, Bool.true_eq_false, not_true_eq_false, not_false_eq_true, decide_true, decide_false, true_and, and_true, false_and, and_false, true_or, or_true, false_or, or_false, Bool.true_and, Bool.false_and, Bool.and_true, Bool.and_false, Bool.true_or, Bool.false_or, Bool.or_true, Bool.or_false, Int.reduceEq, Int.reduceNe, Int.reduceLT, Int.reduceLE, Int.toNat_natCast, toNat_add1, fcode, fat] at h4
        all_goals (first | contradiction | (exfalso; omega) | (exfalso; simp_all))
    | none =>
      have hn1 := nextR_le (s := s) (r := ⟨p, none⟩) hp
      have hn2 := nextR_le (s := s) (r := (nextR s ⟨p, none⟩).2) hn1.2
      have hl1 := levelR_le (s := s) n (r := (nextR s (nextR s ⟨p, none⟩).2).2) hn2.2
      have hl2 := levelR_le (s := s) n (r := (levelR n s (nextR s (nextR s ⟨p, none⟩).2).2).2) hl1.2
      refine triS_of_runs Tryd.func25 rfl Tryd.ntmps25 (rs := [.cell 2 31]) rfl rfl rfl 1 rfl ?_
      refine runs_seq ?_
      refine runs_region ?_
      refine ops_cons (T := fun _ => False) rfl (op_alloc ti31 rfl rfl rfl rfl rfl (by simp only [List.length_cons, List.length_nil, Nat.reduceAdd]; rfl) rfl ?_)
      refine ops_nil ?_
      refine seq_normal ?_
      refine runs_seq ?_
      refine runs_region ?_
      refine ops_fl rfl rfl rfl (fl_move rfl rfl ?_)
      refine ops_cons rfl (op_callo ca41 rfl rfl rfl rfl (token_spec s p (fcode none) (fat none) hs hp) [0] (.cons rfl (by first | exact .cells rfl (FitL.rfl _) | exact .row | exact .nrow | exact .mapI | exact .nnrow | (refine .cells rfl ?_; repeat (first | exact .nil | refine .cons (by first | exact .refl _ | exact .toD rfl | exact .nil rfl | exact .nilD) ?_))) .nil) rfl rfl rfl rfl (.cons (by first | exact .refl _ | exact .toD rfl | exact .nil rfl | exact .nilD | exact .dle rfl (by repeat' (first | exact DLe.refl _ | exact DLe.nil | exact DLeL.nil | exact DLeLL.nil | apply DLe.agg | apply DLe.tup | apply DLe.sl | apply DLe.cp | apply DLeL.cons | apply DLeLL.cons))) .nil) (fun s ob' hq => ?_) (fun s ob' hq => ?_))
      rotate_left
      · first | exact hq.elim | cases hq.1
      obtain ⟨hq1, rfl⟩ := hq
      cases hq1
      refine ⟨_, _, _, _, _, rfl, rfl, rfl, rfl, rfl, ?_⟩
      refine ops_fl rfl rfl rfl (fl_move rfl rfl ?_)
      first
      | refine ops_fl rfl rfl rfl (fl_extract rfl rfl rfl ?_)
      | refine ops_fl rfl rfl rfl (fl_extract_d rfl rfl rfl ?_)
      first
      | refine ops_fl rfl rfl rfl (fl_extract rfl rfl rfl ?_)
      | refine ops_fl rfl rfl rfl (fl_extract_d rfl rfl rfl ?_)
      first
      | refine ops_fl rfl rfl rfl (fl_extract rfl rfl rfl ?_)
      | refine ops_fl rfl rfl rfl (fl_extract_d rfl rfl rfl ?_)
      refine ops_fl rfl rfl rfl (fl_assign rfl rfl ?_)
      refine ops_fl rfl rfl rfl (fl_assign rfl rfl ?_)
      refine ops_fl rfl rfl rfl (fl_assign rfl rfl ?_)
      refine ops_nil ?_
      refine seq_normal ?_
      refine runs_seq ?_
      refine runs_keep [4, 3, 2, 0] rfl ?_
      refine runs_region ?_
      refine ops_fl rfl rfl rfl (fl_move rfl rfl ?_)
      refine ops_cons (T := fun _ => False) rfl (op_call ca42 rfl rfl rfl rfl (isName_spec (tokR s p).1) (.cons (by first | exact .refl _ | exact .toD rfl | exact .nilD | exact .dle rfl (by repeat' (first | exact DLe.refl _ | exact DLe.nil | exact DLeL.nil | exact DLeLL.nil | apply DLe.agg | apply DLe.tup | apply DLe.sl | apply DLe.cp | apply DLeL.cons | apply DLeLL.cons))) .nil) (fun d hd => ?_))
      obtain rfl := hd
      refine ops_fl rfl rfl rfl (fl_assign rfl rfl ?_)
      refine ops_nil ?_
      refine seq_normal ?_
      refine runs_seq ?_
      refine runs_block ?_
      refine runs_seq ?_
      refine runs_region ?_
      refine ops_fl rfl rfl rfl (fl_move rfl rfl ?_)
      first
      | refine ops_fl rfl rfl rfl (fl_nil_blk rfl rfl ?_)
      | refine ops_fl rfl rfl rfl (fl_nil_cp rfl rfl ?_)
      first
      | refine ops_fl rfl rfl rfl (fl_field_blk ti53 rfl rfl rfl rfl ?_)
      | refine ops_fl rfl rfl rfl (fl_field_cp ti53 rfl rfl rfl rfl rfl ?_)
      first
      | refine ops_fl rfl rfl rfl (fl_field_blk ti33 rfl rfl rfl rfl ?_)
      | refine ops_fl rfl rfl rfl (fl_field_cp ti33 rfl rfl rfl rfl rfl ?_)
      first
      | refine ops_fl rfl rfl rfl (fl_load_blk ti3 rfl rfl rfl rfl rfl rfl rfl ?_)
      | refine ops_fl rfl rfl rfl (fl_load_cp ti3 rfl rfl rfl rfl rfl rfl ?_)
      refine ops_fl rfl rfl rfl (fl_neq rfl rfl rfl ?_)
      refine ops_fl rfl rfl rfl (fl_assign rfl rfl ?_)
      refine ops_nil ?_
      refine seq_normal ?_
      refine runs_cond rfl (fun h4 => ?_) (fun h4 => ?_)
      · try simp only [decide_eq_true_eq, decide_eq_false_iff_not, Bool.not_eq_true', Bool.not_eq_false', Bool.not_true, Bool.not_false, Int.not_lt, Int.not_le, Bool.and_eq_true, Bool.or_eq_true, Bool.and_eq_false_iff, Bool.or_eq_false_iff, Bool.false_eq_true, Bool.true_eq_false, not_true_eq_false, not_false_eq_true, decide_true, decide_false, true_and, and_true, false_and, and_false, true_or, or_true, false_or, or_false, Bool.true_and, Bool.false_and, Bool.and_true, Bool.and_false, Bool.true_or, Bool.false_or, Bool.or_true, Bool.or_false, Int.reduceEq, Int.reduceNe, Int.reduceLT, Int.reduceLE, Int.toNat_natCast, toNat_add1, fcode, fat] at h4
        all_goals (first | contradiction | (exfalso; omega) | (exfalso; simp_all))
      · try simp only [decide_eq_true_eq, decide_eq_false_iff_not, Bool.not_eq_true', Bool.not_eq_false', Bool.not_true, Bool.not_false, Int.not_lt, Int.not_le, Bool.and_eq_true, Bool.or_eq_true, Bool.and_eq_false_iff, Bool.or_eq_false_iff, Bool.false_eq_true, Bool.true_eq_false, not_true_eq_false, not_false_eq_true, decide_true, decide_false, true_and, and_true, false_and, and_false, true_or, or_true, false_or, or_false, Bool.true_and, Bool.false_and, Bool.and_true, Bool.and_false, Bool.true_or, Bool.false_or, Bool.or_true, Bool.or_false, Int.reduceEq, Int.reduceNe, Int.reduceLT, Int.reduceLE, Int.toNat_natCast, toNat_add1, fcode, fat] at h4
        all_goals try (first | contradiction | (exfalso; omega))
        all_goals (
          refine runs_seq ?_
          refine runs_keep [6, 4, 3, 2, 0] rfl ?_
          refine runs_region ?_
          refine ops_fl rfl rfl rfl (fl_move rfl rfl ?_)
          refine ops_fl rfl rfl rfl (fl_seql rfl rfl rfl ?_)
          refine ops_fl rfl rfl rfl (fl_assign rfl rfl ?_)
          refine ops_nil ?_
          refine seq_normal ?_
          refine runs_cond rfl (fun h5 => ?_) (fun h5 => ?_)
          · try simp only [decide_eq_true_eq, decide_eq_false_iff_not, Bool.not_eq_true', Bool.not_eq_false', Bool.not_true, Bool.not_false, Int.not_lt, Int.not_le, Bool.and_eq_true, Bool.or_eq_true, Bool.and_eq_false_iff, Bool.or_eq_false_iff, Bool.false_eq_true, Bool.true_eq_false, not_true_eq_false, not_false_eq_true, decide_true, decide_false, true_and, and_true, false_and, and_false, true_or, or_true, false_or, or_false, Bool.true_and, Bool.false_and, Bool.and_true, Bool.and_false, Bool.true_or, Bool.false_or, Bool.or_true, Bool.or_false, Int.reduceEq, Int.reduceNe, Int.reduceLT, Int.reduceLE, Int.toNat_natCast, toNat_add1, fcode, fat] at h5
            all_goals try (first | contradiction | (exfalso; omega))
            all_goals (
              refine runs_keep [2, 0] rfl ?_
              refine runs_region ?_
              refine ops_fl rfl rfl rfl (fl_move rfl rfl ?_)
              refine ops_cons rfl (op_callo ca43 rfl rfl rfl rfl (next_spec s ⟨p, none⟩ hs hp) [0] (.cons rfl (by first | exact .cells rfl (FitL.rfl _) | exact .row | exact .nrow | exact .mapI | exact .nnrow | (refine .cells rfl ?_; repeat (first | exact .nil | refine .cons (by first | exact .refl _ | exact .toD rfl | exact .nil rfl | exact .nilD) ?_))) .nil) rfl rfl rfl rfl (.cons (by first | exact .refl _ | exact .toD rfl | exact .nil rfl | exact .nilD | exact .dle rfl (by repeat' (first | exact DLe.refl _ | exact DLe.nil | exact DLeL.nil | exact DLeLL.nil | apply DLe.agg | apply DLe.tup | apply DLe.sl | apply DLe.cp | apply DLeL.cons | apply DLeLL.cons))) .nil) (fun s ob' hq => ?_) (fun s ob' hq => ?_))
              rotate_left
              · first | exact hq.elim | cases hq.1
              obtain ⟨hq1, rfl⟩ := hq
              cases hq1
              refine ⟨_, _, _, _, _, rfl, rfl, rfl, rfl, rfl, ?_⟩
              refine ops_nil ?_
              refine inb_normal ?_
              refine seq_normal ?_
              refine runs_seq ?_
              refine runs_region ?_
              refine ops_fl rfl rfl rfl (fl_build ti31 rfl rfl rfl rfl rfl rfl rfl ?_)
              refine ops_cons rfl (op_store ti31 rfl rfl rfl rfl rfl rfl rfl rfl rfl rfl rfl ?_)
              refine ops_nil ?_
              refine seq_normal ?_
              refine runs_ret ?_
              refine fin_ret ?_
              refine fin_odl ⟨_, _, rfl, (from_cell rfl rfl ti31 rfl rfl rfl rfl), rfl⟩ rfl (zeroL.d) (by repeat' (first | exact DLe.refl _ | exact DLe.nil | exact DLeL.nil | exact DLeLL.nil | apply DLe.agg | apply DLe.tup | apply DLe.sl | apply DLe.cp | apply DLeL.cons | apply DLeLL.cons)) ([0]) ([rdO s (nextR s ⟨p, none⟩).2]) rfl rfl rfl ?_ ?_
              · repeat (first | exact .nil | refine .cons rfl (.cells rfl (FitL.rfl _)) ?_ | refine .cons rfl .row ?_ | refine .cons rfl .mapI ?_ | refine .cons rfl .nnrow ?_ | refine .cons rfl .nrow ?_ | refine .cons rfl .dead ?_ | refine .cons rfl (.cells rfl ?_) ?_ | refine .cons (by first | exact .refl _ | exact .toD rfl | exact .nilD) ?_)
              · rw [levelR_zero h5]; exact ⟨rfl, rfl⟩
            )
          · try simp only [decide_eq_true_eq, decide_eq_false_iff_not, Bool.not_eq_true', Bool.not_eq_false', Bool.not_true, Bool.not_false, Int.not_lt, Int.not_le, Bool.and_eq_true, Bool.or_eq_true, Bool.and_eq_false_iff, Bool.or_eq_false_iff, Bool.false_eq_true, Bool.true_eq_false, not_true_eq_false, not_false_eq_true, decide_true, decide_false, true_and, and_true, false_and, and_false, true_or, or_true, false_or, or_false, Bool.true_and, Bool.false_and, Bool.and_true, Bool.and_false, Bool.true_or, Bool.false_or, Bool.or_true, Bool.or_false, Int.reduceEq, Int.reduceNe, Int.reduceLT, Int.reduceLE, Int.toNat_natCast, toNat_add1, fcode, fat] at h5
            all_goals try (first | contradiction | (exfalso; omega))
            all_goals (
              refine runs_seq ?_
              refine runs_region ?_
              refine ops_fl rfl rfl rfl (fl_move rfl rfl ?_)
              refine ops_fl rfl rfl rfl (fl_assign rfl rfl ?_)
              refine ops_nil ?_
              refine seq_normal ?_
              refine runs_cond rfl (fun h7 => ?_) (fun h7 => ?_)
              · try simp only [decide_eq_true_eq, decide_eq_false_iff_not, Bool.not_eq_true', Bool.not_eq_false', Bool.not_true, Bool.not_false, Int.not_lt, Int.not_le, Bool.and_eq_true, Bool.or_eq_true, Bool.and_eq_false_iff, Bool.or_eq_false_iff, Bool.false_eq_true, Bool.true_eq_false, not_true_eq_false, not_false_eq_true, decide_true, decide_false, true_and, and_true, false_and, and_false, true_or, or_true, false_or, or_false, Bool.true_and, Bool.false_and, Bool.and_true, Bool.and_false, Bool.true_or, Bool.false_or, Bool.or_true, Bool.or_false, Int.reduceEq, Int.reduceNe, Int.reduceLT, Int.reduceLE, Int.toNat_natCast, toNat_add1, fcode, fat] at h7
                all_goals try (first | contradiction | (exfalso; omega))
                all_goals (
                  refine runs_seq ?_
                  refine runs_keep [3, 2, 0] rfl ?_
                  refine runs_region ?_
                  refine ops_fl rfl rfl rfl (fl_move rfl rfl ?_)
                  refine ops_cons rfl (op_callo ca43 rfl rfl rfl rfl (next_spec s ⟨p, none⟩ hs hp) [0] (.cons rfl (by first | exact .cells rfl (FitL.rfl _) | exact .row | exact .nrow | exact .mapI | exact .nnrow | (refine .cells rfl ?_; repeat (first | exact .nil | refine .cons (by first | exact .refl _ | exact .toD rfl | exact .nil rfl | exact .nilD) ?_))) .nil) rfl rfl rfl rfl (.cons (by first | exact .refl _ | exact .toD rfl | exact .nil rfl | exact .nilD | exact .dle rfl (by repeat' (first | exact DLe.refl _ | exact DLe.nil | exact DLeL.nil | exact DLeLL.nil | apply DLe.agg | apply DLe.tup | apply DLe.sl | apply DLe.cp | apply DLeL.cons | apply DLeLL.cons))) .nil) (fun s ob' hq => ?_) (fun s ob' hq => ?_))
                  rotate_left
                  · first | exact hq.elim | cases hq.1
                  obtain ⟨hq1, rfl⟩ := hq
                  cases hq1
                  refine ⟨_, _, _, _, _, rfl, rfl, rfl, rfl, rfl, ?_⟩
                  refine ops_nil ?_
                  refine seq_normal ?_
                  refine runs_seq ?_
                  refine runs_region ?_
                  refine ops_fl rfl rfl rfl (fl_move rfl rfl ?_)
                  refine ops_fl rfl rfl rfl (fl_build ti31 rfl rfl rfl rfl rfl rfl rfl ?_)
                  refine ops_cons rfl (op_store ti31 rfl rfl rfl rfl rfl rfl rfl rfl rfl rfl rfl ?_)
                  refine ops_nil ?_
                  refine seq_normal ?_
                  refine runs_ret ?_
                  refine inb_ret ?_
                  refine seq_ret ?_
                  refine fin_ret ?_
                  refine fin_odl ⟨_, _, rfl, (from_cell rfl rfl ti31 rfl rfl rfl rfl), rfl⟩ rfl ((Lvl.mk 4 (tokR s p).1 []).d) (by repeat' (first | exact DLe.refl _ | exact DLe.nil | exact DLeL.nil | exact DLeLL.nil | apply DLe.agg | apply DLe.tup | apply DLe.sl | apply DLe.cp | apply DLeL.cons | apply DLeLL.cons)) ([0]) ([rdO s (nextR s ⟨p, none⟩).2]) rfl rfl rfl ?_ ?_
                  · repeat (first | exact .nil | refine .cons rfl (.cells rfl (FitL.rfl _)) ?_ | refine .cons rfl .row ?_ | refine .cons rfl .mapI ?_ | refine .cons rfl .nnrow ?_ | refine .cons rfl .nrow ?_ | refine .cons rfl .dead ?_ | refine .cons rfl (.cells rfl ?_) ?_ | refine .cons (by first | exact .refl _ | exact .toD rfl | exact .nilD) ?_)
                  · rw [levelR_name h5 h7]; exact ⟨rfl, rfl⟩
                )
              · try simp only [decide_eq_true_eq, decide_eq_false_iff_not, Bool.not_eq_true', Bool.not_eq_false', Bool.not_true, Bool.not_false, Int.not_lt, Int.not_le, Bool.and_eq_true, Bool.or_eq_true, Bool.and_eq_false_iff, Bool.or_eq_false_iff, Bool.false_eq_true, Bool.true_eq_false, not_true_eq_false, not_false_eq_true, decide_true, decide_false, true_and, and_true, false_and, and_false, true_or, or_true, false_or, or_false, Bool.true_and, Bool.false_and, Bool.and_true, Bool.and_false, Bool.true_or, Bool.false_or, Bool.or_true, Bool.or_false, Int.reduceEq, Int.reduceNe, Int.reduceLT, Int.reduceLE, Int.toNat_natCast, toNat_add1, fcode, fat] at h7
                all_goals try (first | contradiction | (exfalso; omega))
                all_goals (
                  refine runs_seq ?_
                  refine runs_keep [4, 3, 2, 0] rfl ?_
                  refine runs_region ?_
                  refine ops_fl rfl rfl rfl (fl_move rfl rfl ?_)
                  refine ops_fl rfl rfl rfl (fl_seql rfl rfl rfl ?_)
                  refine ops_fl rfl rfl rfl (fl_assign rfl rfl ?_)
                  refine ops_nil ?_
                  refine seq_normal ?_
                  refine runs_cond rfl (fun h10 => ?_) (fun h10 => ?_)
                  · try simp only [decide_eq_true_eq, decide_eq_false_iff_not, Bool.not_eq_true', Bool.not_eq_false', Bool.not_true, Bool.not_false, Int.not_lt, Int.not_le, Bool.and_eq_true, Bool.or_eq_true, Bool.and_eq_false_iff, Bool.or_eq_false_iff, Bool.false_eq_true, Bool.true_eq_false, not_true_eq_false, not_false_eq_true, decide_true, decide_false, true_and, and_true, false_and, and_false, true_or, or_true, false_or, or_false, Bool.true_and, Bool.false_and, Bool.and_true, Bool.and_false, Bool.true_or, Bool.false_or, Bool.or_true, Bool.or_false, Int.reduceEq, Int.reduceNe, Int.reduceLT, Int.reduceLE, Int.toNat_natCast, toNat_add1, fcode, fat] at h10
                    all_goals try (first | contradiction | (exfalso; omega))
                    all_goals (
                      refine runs_seq ?_
                      refine runs_keep [2, 0] rfl ?_
                      refine runs_region ?_
                      refine ops_fl rfl rfl rfl (fl_move rfl rfl ?_)
                      refine ops_cons rfl (op_callo ca43 rfl rfl rfl rfl (next_spec s ⟨p, none⟩ hs hp) [0] (.cons rfl (by first | exact .cells rfl (FitL.rfl _) | exact .row | exact .nrow | exact .mapI | exact .nnrow | (refine .cells rfl ?_; repeat (first | exact .nil | refine .cons (by first | exact .refl _ | exact .toD rfl | exact .nil rfl | exact .nilD) ?_))) .nil) rfl rfl rfl rfl (.cons (by first | exact .refl _ | exact .toD rfl | exact .nil rfl | exact .nilD | exact .dle rfl (by repeat' (first | exact DLe.refl _ | exact DLe.nil | exact DLeL.nil | exact DLeLL.nil | apply DLe.agg | apply DLe.tup | apply DLe.sl | apply DLe.cp | apply DLeL.cons | apply DLeLL.cons))) .nil) (fun s ob' hq => ?_) (fun s ob' hq => ?_))
                      rotate_left
                      · first | exact hq.elim | cases hq.1
                      obtain ⟨hq1, rfl⟩ := hq
                      cases hq1
                      refine ⟨_, _, _, _, _, rfl, rfl, rfl, rfl, rfl, ?_⟩
                      refine ops_nil ?_
                      refine seq_normal ?_
                      refine runs_seq ?_
                      refine runs_region ?_
                      refine ops_fl rfl rfl rfl (fl_move rfl rfl ?_)
                      refine ops_cons rfl (op_callo ca41 rfl rfl rfl rfl (token_spec s (nextR s ⟨p, none⟩).2.p (fcode (nextR s ⟨p, none⟩).2.f) (fat (nextR s ⟨p, none⟩).2.f) hs hn1.2) [0] (.cons rfl (by first | exact .cells rfl (FitL.rfl _) | exact .row | exact .nrow | exact .mapI | exact .nnrow | (refine .cells rfl ?_; repeat (first | exact .nil | refine .cons (by first | exact .refl _ | exact .toD rfl | exact .nil rfl | exact .nilD) ?_))) .nil) rfl rfl rfl rfl (.cons (by first | exact .refl _ | exact .toD rfl | exact .nil rfl | exact .nilD | exact .dle rfl (by repeat' (first | exact DLe.refl _ | exact DLe.nil | exact DLeL.nil | exact DLeLL.nil | apply DLe.agg | apply DLe.tup | apply DLe.sl | apply DLe.cp | apply DLeL.cons | apply DLeLL.cons))) .nil) (fun s ob' hq => ?_) (fun s ob' hq => ?_))
                      rotate_left
                      · first | exact hq.elim | cases hq.1
                      obtain ⟨hq1, rfl⟩ := hq
                      cases hq1
                      refine ⟨_, _, _, _, _, rfl, rfl, rfl, rfl, rfl, ?_⟩
                      refine ops_fl rfl rfl rfl (fl_move rfl rfl ?_)
                      first
                      | refine ops_fl rfl rfl rfl (fl_extract rfl rfl rfl ?_)
                      | refine ops_fl rfl rfl rfl (fl_extract_d rfl rfl rfl ?_)
                      first
                      | refine ops_fl rfl rfl rfl (fl_extract rfl rfl rfl ?_)
                      | refine ops_fl rfl rfl rfl (fl_extract_d rfl rfl rfl ?_)
                      first
                      | refine ops_fl rfl rfl rfl (fl_extract rfl rfl rfl ?_)
                      | refine ops_fl rfl rfl rfl (fl_extract_d rfl rfl rfl ?_)
                      refine ops_fl rfl rfl rfl (fl_assign rfl rfl ?_)
                      refine ops_fl rfl rfl rfl (fl_assign rfl rfl ?_)
                      refine ops_fl rfl rfl rfl (fl_assign rfl rfl ?_)
                      refine ops_nil ?_
                      refine seq_normal ?_
                      refine runs_seq ?_
                      refine runs_keep [8, 7, 2, 0] rfl ?_
                      refine runs_region ?_
                      refine ops_fl rfl rfl rfl (fl_assign rfl rfl ?_)
                      refine ops_nil ?_
                      refine seq_normal ?_
                      refine runs_seq ?_
                      refine runs_seq ?_
                      refine runs_region ?_
                      refine ops_fl rfl rfl rfl (fl_move rfl rfl ?_)
                      refine ops_nil ?_
                      refine seq_normal ?_
                      refine runs_keep [52, 10, 8, 2, 0] rfl ?_
                      apply runs_cut_c (ι := Unit) (fun _ => [(10, int (kindR (tokR s (nextR s ⟨p, none⟩).2.p).1))]) [8, 2, 0] (fun _ => True)
                      case hk => exact rfl
                      case h1 =>
                        refine runs_block ?_
                        refine runs_seq ?_
                        refine runs_region ?_
                        refine ops_fl rfl rfl rfl (fl_seql rfl rfl rfl ?_)
                        refine ops_fl rfl rfl rfl (fl_assign rfl rfl ?_)
                        refine ops_nil ?_
                        refine seq_normal ?_
                        refine runs_cond rfl (fun h15 => ?_) (fun h15 => ?_)
                        · try simp only [decide_eq_true_eq, decide_eq_false_iff_not, Bool.not_eq_true', Bool.not_eq_false', Bool.not_true, Bool.not_false, Int.not_lt, Int.not_le, Bool.and_eq_true, Bool.or_eq_true, Bool.and_eq_false_iff, Bool.or_eq_false_iff, Bool.false_eq_true, Bool.true_eq_false, not_true_eq_false, not_false_eq_true, decide_true, decide_false, true_and, and_true, false_and, and_false, true_or, or_true, false_or, or_false, Bool.true_and, Bool.false_and, Bool.and_true, Bool.and_false, Bool.true_or, Bool.false_or, Bool.or_true, Bool.or_false, Int.reduceEq, Int.reduceNe, Int.reduceLT, Int.reduceLE, Int.toNat_natCast, toNat_add1, fcode, fat] at h15
                          all_goals try (first | contradiction | (exfalso; omega))
                          all_goals (
                            refine runs_keep [8, 2, 0] rfl ?_
                            refine runs_region ?_
                            refine ops_fl rfl rfl rfl (fl_assign rfl rfl ?_)
                            refine ops_nil ?_
                            refine inb_normal ?_
                            refine seq_back ?_
                            refine back_i (()) rfl ?_ ?_
                            · trivial
                            · refine meets_of rfl rfl rfl ?_ (.cons rfl (by exact Fit.of_eq (by simp only [kindR]; simp_all <;> rfl)) (.cons rfl (by first | exact .refl _ | exact .toD rfl | exact .nilD | exact Fit.of_eq rfl | exact .dle rfl (by repeat' (first | exact DLe.refl _ | exact DLe.nil | exact DLeL.nil | exact DLeLL.nil | apply DLe.agg | apply DLe.tup | apply DLe.sl | apply DLe.cp | apply DLeL.cons | apply DLeLL.cons))) (.cons rfl (by first | exact .refl _ | exact .toD rfl | exact .nilD | exact Fit.of_eq rfl | exact .dle rfl (by repeat' (first | exact DLe.refl _ | exact DLe.nil | exact DLeL.nil | exact DLeLL.nil | apply DLe.agg | apply DLe.tup | apply DLe.sl | apply DLe.cp | apply DLeL.cons | apply DLeLL.cons))) (.cons rfl (by first | exact .refl _ | exact .toD rfl | exact .nilD | exact Fit.of_eq rfl | exact .dle rfl (by repeat' (first | exact DLe.refl _ | exact DLe.nil | exact DLeL.nil | exact DLeLL.nil | apply DLe.agg | apply DLe.tup | apply DLe.sl | apply DLe.cp | apply DLeL.cons | apply DLeLL.cons))) .nil))))
                              repeat (first | exact .nil | refine .cons rfl (.cells rfl (FitL.rfl _)) ?_ | refine .cons rfl (.cells rfl (by repeat (first | exact .nil | refine .cons (by first | exact .refl _ | exact .toD rfl | exact .nil rfl | exact .nilD | exact Fit.of_eq rfl) ?_))) ?_ | refine .cons rfl .row ?_ | refine .cons rfl .mapI ?_ | refine .cons rfl .nnrow ?_ | refine .cons rfl .nrow ?_ | refine .cons rfl .dead ?_)
                          )
                        · try simp only [decide_eq_true_eq, decide_eq_false_iff_not, Bool.not_eq_true', Bool.not_eq_false', Bool.not_true, Bool.not_false, Int.not_lt, Int.not_le, Bool.and_eq_true, Bool.or_eq_true, Bool.and_eq_false_iff, Bool.or_eq_false_iff, Bool.false_eq_true, Bool.true_eq_false, not_true_eq_false, not_false_eq_true, decide_true, decide_false, true_and, and_true, false_and, and_false, true_or, or_true, false_or, or_false, Bool.true_and, Bool.false_and, Bool.and_true, Bool.and_false, Bool.true_or, Bool.false_or, Bool.or_true, Bool.or_false, Int.reduceEq, Int.reduceNe, Int.reduceLT, Int.reduceLE, Int.toNat_natCast, toNat_add1, fcode, fat] at h15
                          all_goals try (first | contradiction | (exfalso; omega))
                          all_goals (
                            refine runs_seq ?_
                            refine runs_region ?_
                            refine ops_fl rfl rfl rfl (fl_seql rfl rfl rfl ?_)
                            refine ops_fl rfl rfl rfl (fl_assign rfl rfl ?_)
                            refine ops_nil ?_
                            refine seq_normal ?_
                            refine runs_cond rfl (fun h17 => ?_) (fun h17 => ?_)
                            · try simp only [decide_eq_true_eq, decide_eq_false_iff_not, Bool.not_eq_true', Bool.not_eq_false', Bool.not_true, Bool.not_false, Int.not_lt, Int.not_le, Bool.and_eq_true, Bool.or_eq_true, Bool.and_eq_false_iff, Bool.or_eq_false_iff, Bool.false_eq_true, Bool.true_eq_false, not_true_eq_false, not_false_eq_true, decide_true, decide_false, true_and, and_true, false_and, and_false, true_or, or_true, false_or, or_false, Bool.true_and, Bool.false_and, Bool.and_true, Bool.and_false, Bool.true_or, Bool.false_or, Bool.or_true, Bool.or_false, Int.reduceEq, Int.reduceNe, Int.reduceLT, Int.reduceLE, Int.toNat_natCast, toNat_add1, fcode, fat] at h17
                              all_goals try (first | contradiction | (exfalso; omega))
                              all_goals (
                                refine runs_keep [8, 2, 0] rfl ?_
                                refine runs_region ?_
                                refine ops_fl rfl rfl rfl (fl_assign rfl rfl ?_)
                                refine ops_nil ?_
                                refine inb_normal ?_
                                refine seq_back ?_
                                refine back_i (()) rfl ?_ ?_
                                · trivial
                                · refine meets_of rfl rfl rfl ?_ (.cons rfl (by exact Fit.of_eq (by simp only [kindR]; simp_all <;> rfl)) (.cons rfl (by first | exact .refl _ | exact .toD rfl | exact .nilD | exact Fit.of_eq rfl | exact .dle rfl (by repeat' (first | exact DLe.refl _ | exact DLe.nil | exact DLeL.nil | exact DLeLL.nil | apply DLe.agg | apply DLe.tup | apply DLe.sl | apply DLe.cp | apply DLeL.cons | apply DLeLL.cons))) (.cons rfl (by first | exact .refl _ | exact .toD rfl | exact .nilD | exact Fit.of_eq rfl | exact .dle rfl (by repeat' (first | exact DLe.refl _ | exact DLe.nil | exact DLeL.nil | exact DLeLL.nil | apply DLe.agg | apply DLe.tup | apply DLe.sl | apply DLe.cp | apply DLeL.cons | apply DLeLL.cons))) (.cons rfl (by first | exact .refl _ | exact .toD rfl | exact .nilD | exact Fit.of_eq rfl | exact .dle rfl (by repeat' (first | exact DLe.refl _ | exact DLe.nil | exact DLeL.nil | exact DLeLL.nil | apply DLe.agg | apply DLe.tup | apply DLe.sl | apply DLe.cp | apply DLeL.cons | apply DLeLL.cons))) .nil))))
                                  repeat (first | exact .nil | refine .cons rfl (.cells rfl (FitL.rfl _)) ?_ | refine .cons rfl (.cells rfl (by repeat (first | exact .nil | refine .cons (by first | exact .refl _ | exact .toD rfl | exact .nil rfl | exact .nilD | exact Fit.of_eq rfl) ?_))) ?_ | refine .cons rfl .row ?_ | refine .cons rfl .mapI ?_ | refine .cons rfl .nnrow ?_ | refine .cons rfl .nrow ?_ | refine .cons rfl .dead ?_)
                              )
                            · try simp only [decide_eq_true_eq, decide_eq_false_iff_not, Bool.not_eq_true', Bool.not_eq_false', Bool.not_true, Bool.not_false, Int.not_lt, Int.not_le, Bool.and_eq_true, Bool.or_eq_true, Bool.and_eq_false_iff, Bool.or_eq_false_iff, Bool.false_eq_true, Bool.true_eq_false, not_true_eq_false, not_false_eq_true, decide_true, decide_false, true_and, and_true, false_and, and_false, true_or, or_true, false_or, or_false, Bool.true_and, Bool.false_and, Bool.and_true, Bool.and_false, Bool.true_or, Bool.false_or, Bool.or_true, Bool.or_false, Int.reduceEq, Int.reduceNe, Int.reduceLT, Int.reduceLE, Int.toNat_natCast, toNat_add1, fcode, fat] at h17
                              all_goals try (first | contradiction | (exfalso; omega))
                              all_goals (
                                refine runs_seq ?_
                                refine runs_keep [52, 10, 8, 2, 0] rfl ?_
                                refine runs_region ?_
                                refine ops_fl rfl rfl rfl (fl_seql rfl rfl rfl ?_)
                                refine ops_fl rfl rfl rfl (fl_assign rfl rfl ?_)
                                refine ops_nil ?_
                                refine seq_normal ?_
                                refine runs_cond rfl (fun h19 => ?_) (fun h19 => ?_)
                                · try simp only [decide_eq_true_eq, decide_eq_false_iff_not, Bool.not_eq_true', Bool.not_eq_false', Bool.not_true, Bool.not_false, Int.not_lt, Int.not_le, Bool.and_eq_true, Bool.or_eq_true, Bool.and_eq_false_iff, Bool.or_eq_false_iff, Bool.false_eq_true, Bool.true_eq_false, not_true_eq_false, not_false_eq_true, decide_true, decide_false, true_and, and_true, false_and, and_false, true_or, or_true, false_or, or_false, Bool.true_and, Bool.false_and, Bool.and_true, Bool.and_false, Bool.true_or, Bool.false_or, Bool.or_true, Bool.or_false, Int.reduceEq, Int.reduceNe, Int.reduceLT, Int.reduceLE, Int.toNat_natCast, toNat_add1, fcode, fat] at h19
                                  all_goals try (first | contradiction | (exfalso; omega))
                                  all_goals (
                                    refine runs_keep [8, 2, 0] rfl ?_
                                    refine runs_region ?_
                                    refine ops_fl rfl rfl rfl (fl_assign rfl rfl ?_)
                                    refine ops_nil ?_
                                    refine inb_normal ?_
                                    refine seq_back ?_
                                    refine back_i (()) rfl ?_ ?_
                                    · trivial
                                    · refine meets_of rfl rfl rfl ?_ (.cons rfl (by exact Fit.of_eq (by simp only [kindR]; simp_all <;> rfl)) (.cons rfl (by first | exact .refl _ | exact .toD rfl | exact .nilD | exact Fit.of_eq rfl | exact .dle rfl (by repeat' (first | exact DLe.refl _ | exact DLe.nil | exact DLeL.nil | exact DLeLL.nil | apply DLe.agg | apply DLe.tup | apply DLe.sl | apply DLe.cp | apply DLeL.cons | apply DLeLL.cons))) (.cons rfl (by first | exact .refl _ | exact .toD rfl | exact .nilD | exact Fit.of_eq rfl | exact .dle rfl (by repeat' (first | exact DLe.refl _ | exact DLe.nil | exact DLeL.nil | exact DLeLL.nil | apply DLe.agg | apply DLe.tup | apply DLe.sl | apply DLe.cp | apply DLeL.cons | apply DLeLL.cons))) (.cons rfl (by first | exact .refl _ | exact .toD rfl | exact .nilD | exact Fit.of_eq rfl | exact .dle rfl (by repeat' (first | exact DLe.refl _ | exact DLe.nil | exact DLeL.nil | exact DLeLL.nil | apply DLe.agg | apply DLe.tup | apply DLe.sl | apply DLe.cp | apply DLeL.cons | apply DLeLL.cons))) .nil))))
                                      repeat (first | exact .nil | refine .cons rfl (.cells rfl (FitL.rfl _)) ?_ | refine .cons rfl (.cells rfl (by repeat (first | exact .nil | refine .cons (by first | exact .refl _ | exact .toD rfl | exact .nil rfl | exact .nilD | exact Fit.of_eq rfl) ?_))) ?_ | refine .cons rfl .row ?_ | refine .cons rfl .mapI ?_ | refine .cons rfl .nnrow ?_ | refine .cons rfl .nrow ?_ | refine .cons rfl .dead ?_)
                                  )
                                · try simp only [decide_eq_true_eq, decide_eq_false_iff_not, Bool.not_eq_true', Bool.not_eq_false', Bool.not_true, Bool.not_false, Int.not_lt, Int.not_le, Bool.and_eq_true, Bool.or_eq_true, Bool.and_eq_false_iff, Bool.or_eq_false_iff, Bool.false_eq_true, Bool.true_eq_false, not_true_eq_false, not_false_eq_true, decide_true, decide_false, true_and, and_true, false_and, and_false, true_or, or_true, false_or, or_false, Bool.true_and, Bool.false_and, Bool.and_true, Bool.and_false, Bool.true_or, Bool.false_or, Bool.or_true, Bool.or_false, Int.reduceEq, Int.reduceNe, Int.reduceLT, Int.reduceLE, Int.toNat_natCast, toNat_add1, fcode, fat] at h19
                                  all_goals try (first | contradiction | (exfalso; omega))
                                  all_goals (
                                    refine runs_skip ?_
                                    refine inb_normal ?_
                                    refine seq_back ?_
                                    refine back_i (()) rfl ?_ ?_
                                    · trivial
                                    · refine meets_of rfl rfl rfl ?_ (.cons rfl (by exact Fit.of_eq (by simp only [kindR]; simp_all <;> rfl)) (.cons rfl (by first | exact .refl _ | exact .toD rfl | exact .nilD | exact Fit.of_eq rfl | exact .dle rfl (by repeat' (first | exact DLe.refl _ | exact DLe.nil | exact DLeL.nil | exact DLeLL.nil | apply DLe.agg | apply DLe.tup | apply DLe.sl | apply DLe.cp | apply DLeL.cons | apply DLeLL.cons))) (.cons rfl (by first | exact .refl _ | exact .toD rfl | exact .nilD | exact Fit.of_eq rfl | exact .dle rfl (by repeat' (first | exact DLe.refl _ | exact DLe.nil | exact DLeL.nil | exact DLeLL.nil | apply DLe.agg | apply DLe.tup | apply DLe.sl | apply DLe.cp | apply DLeL.cons | apply DLeLL.cons))) (.cons rfl (by first | exact .refl _ | exact .toD rfl | exact .nilD | exact Fit.of_eq rfl | exact .dle rfl (by repeat' (first | exact DLe.refl _ | exact DLe.nil | exact DLeL.nil | exact DLeLL.nil | apply DLe.agg | apply DLe.tup | apply DLe.sl | apply DLe.cp | apply DLeL.cons | apply DLeLL.cons))) .nil))))
                                      repeat (first | exact .nil | refine .cons rfl (.cells rfl (FitL.rfl _)) ?_ | refine .cons rfl (.cells rfl (by repeat (first | exact .nil | refine .cons (by first | exact .refl _ | exact .toD rfl | exact .nil rfl | exact .nilD | exact Fit.of_eq rfl) ?_))) ?_ | refine .cons rfl .row ?_ | refine .cons rfl .mapI ?_ | refine .cons rfl .nnrow ?_ | refine .cons rfl .nrow ?_ | refine .cons rfl .dead ?_)
                                  )
                              )
                          )
                      case h2 =>
                        rintro _ hcut
                        try dsimp only at hcut
                        refine runs_keep [10, 8, 2, 0] rfl ?_
                        refine runs_seq ?_
                        refine runs_seq ?_
                        refine runs_region ?_
                        refine ops_fl rfl rfl rfl (fl_move rfl rfl ?_)
                        refine ops_fl rfl rfl rfl (fl_eql rfl rfl rfl ?_)
                        refine ops_nil ?_
                        refine seq_normal ?_
                        refine runs_cond rfl (fun h21 => ?_) (fun h21 => ?_)
                        · try simp only [decide_eq_true_eq, decide_eq_false_iff_not, Bool.not_eq_true', Bool.not_eq_false', Bool.not_true, Bool.not_false, Int.not_lt, Int.not_le, Bool.and_eq_true, Bool.or_eq_true, Bool.and_eq_false_iff, Bool.or_eq_false_iff, Bool.false_eq_true, Bool.true_eq_false, not_true_eq_false, not_false_eq_true, decide_true, decide_false, true_and, and_true, false_and, and_false, true_or, or_true, false_or, or_false, Bool.true_and, Bool.false_and, Bool.and_true, Bool.and_false, Bool.true_or, Bool.false_or, Bool.or_true, Bool.or_false, Int.reduceEq, Int.reduceNe, Int.reduceLT, Int.reduceLE, Int.toNat_natCast, toNat_add1, fcode, fat] at h21
                          all_goals try (first | contradiction | (exfalso; omega))
                          all_goals (
                            refine runs_seq ?_
                            refine runs_region ?_
                            refine ops_fl rfl rfl rfl (fl_move rfl rfl ?_)
                            refine ops_fl rfl rfl rfl (fl_move rfl rfl ?_)
                            refine ops_cons rfl (op_callo ca44 rfl rfl rfl rfl (fail_spec s (tokR s (nextR s ⟨p, none⟩).2.p).2.1 (nextR s ⟨p, none⟩).2) [0] (.cons rfl (by first | exact .cells rfl (FitL.rfl _) | exact .row | exact .nrow | exact .mapI | exact .nnrow | (refine .cells rfl ?_; repeat (first | exact .nil | refine .cons (by first | exact .refl _ | exact .toD rfl | exact .nil rfl | exact .nilD) ?_))) .nil) rfl rfl rfl rfl (.cons (by first | exact .refl _ | exact .toD rfl | exact .nil rfl | exact .nilD | exact .dle rfl (by repeat' (first | exact DLe.refl _ | exact DLe.nil | exact DLeL.nil | exact DLeLL.nil | apply DLe.agg | apply DLe.tup | apply DLe.sl | apply DLe.cp | apply DLeL.cons | apply DLeLL.cons))) (.cons (by first | exact .refl _ | exact .toD rfl | exact .nil rfl | exact .nilD | exact .dle rfl (by repeat' (first | exact DLe.refl _ | exact DLe.nil | exact DLeL.nil | exact DLeLL.nil | apply DLe.agg | apply DLe.tup | apply DLe.sl | apply DLe.cp | apply DLeL.cons | apply DLeLL.cons))) .nil)) (fun s ob' hq => ?_) (fun s ob' hq => ?_))
                            rotate_left
                            · first | exact hq.elim | cases hq.1
                            obtain ⟨hq1, rfl⟩ := hq
                            cases hq1
                            refine ⟨_, _, _, _, _, rfl, rfl, rfl, rfl, rfl, ?_⟩
                            refine ops_nil ?_
                            refine seq_normal ?_
                            refine runs_seq ?_
                            refine runs_keep [2] rfl ?_
                            refine runs_region ?_
                            refine ops_fl rfl rfl rfl (fl_build ti31 rfl rfl rfl rfl rfl rfl rfl ?_)
                            refine ops_cons rfl (op_store ti31 rfl rfl rfl rfl rfl rfl rfl rfl rfl rfl rfl ?_)
                            refine ops_nil ?_
                            refine seq_normal ?_
                            refine runs_ret ?_
                            refine seq_ret ?_
                            refine inb_ret ?_
                            refine seq_ret ?_
                            refine fin_ret ?_
                            refine fin_odl ⟨_, _, rfl, (from_cell rfl rfl ti31 rfl rfl rfl rfl), rfl⟩ rfl (zeroL.d) (by repeat' (first | exact DLe.refl _ | exact DLe.nil | exact DLeL.nil | exact DLeLL.nil | apply DLe.agg | apply DLe.tup | apply DLe.sl | apply DLe.cp | apply DLeL.cons | apply DLeLL.cons)) ([0]) ([rdO s ((nextR s ⟨p, none⟩).2.fail (tokR s (nextR s ⟨p, none⟩).2.p).2.1)]) rfl rfl rfl ?_ ?_
                            · repeat (first | exact .nil | refine .cons rfl (.cells rfl (FitL.rfl _)) ?_ | refine .cons rfl .row ?_ | refine .cons rfl .mapI ?_ | refine .cons rfl .nnrow ?_ | refine .cons rfl .nrow ?_ | refine .cons rfl .dead ?_ | refine .cons rfl (.cells rfl ?_) ?_ | refine .cons (by first | exact .refl _ | exact .toD rfl | exact .nilD) ?_)
                            · rw [levelR_kind h5 h7 h10 h21]; exact ⟨rfl, rfl⟩
                          )
                        · try simp only [decide_eq_true_eq, decide_eq_false_iff_not, Bool.not_eq_true', Bool.not_eq_false', Bool.not_true, Bool.not_false, Int.not_lt, Int.not_le, Bool.and_eq_true, Bool.or_eq_true, Bool.and_eq_false_iff, Bool.or_eq_false_iff, Bool.false_eq_true, Bool.true_eq_false, not_true_eq_false, not_false_eq_true, decide_true, decide_false, true_and, and_true, false_and, and_false, true_or, or_true, false_or, or_false, Bool.true_and, Bool.false_and, Bool.and_true, Bool.and_false, Bool.true_or, Bool.false_or, Bool.or_true, Bool.or_false, Int.reduceEq, Int.reduceNe, Int.reduceLT, Int.reduceLE, Int.toNat_natCast, toNat_add1, fcode, fat] at h21
                          all_goals try (first | contradiction | (exfalso; omega))
                          all_goals (
                            refine runs_skip ?_
                            refine seq_normal ?_
                            refine runs_seq ?_
                            refine runs_region ?_
                            refine ops_fl rfl rfl rfl (fl_move rfl rfl ?_)
                            refine ops_cons rfl (op_callo ca43 rfl rfl rfl rfl (next_spec s (nextR s ⟨p, none⟩).2 hs hn1.2) [0] (.cons rfl (by first | exact .cells rfl (FitL.rfl _) | exact .row | exact .nrow | exact .mapI | exact .nnrow | (refine .cells rfl ?_; repeat (first | exact .nil | refine .cons (by first | exact .refl _ | exact .toD rfl | exact .nil rfl | exact .nilD) ?_))) .nil) rfl rfl rfl rfl (.cons (by first | exact .refl _ | exact .toD rfl | exact .nil rfl | exact .nilD | exact .dle rfl (by repeat' (first | exact DLe.refl _ | exact DLe.nil | exact DLeL.nil | exact DLeLL.nil | apply DLe.agg | apply DLe.tup | apply DLe.sl | apply DLe.cp | apply DLeL.cons | apply DLeLL.cons))) .nil) (fun s ob' hq => ?_) (fun s ob' hq => ?_))
                            rotate_left
                            · first | exact hq.elim | cases hq.1
                            obtain ⟨hq1, rfl⟩ := hq
                            cases hq1
                            refine ⟨_, _, _, _, _, rfl, rfl, rfl, rfl, rfl, ?_⟩
                            refine ops_nil ?_
                            refine seq_normal ?_
                            refine runs_seq ?_
                            refine runs_keep [10, 2, 0] rfl ?_
                            refine runs_region ?_
                            refine ops_fl rfl rfl rfl (fl_move rfl rfl ?_)
                            refine ops_fl rfl rfl rfl (fl_build ti31 rfl rfl rfl rfl rfl rfl rfl ?_)
                            refine ops_cons (T := fun _ => False) rfl (op_alloc ti31 rfl rfl rfl rfl rfl (by simp only [List.length_cons, List.length_nil, Nat.reduceAdd]; rfl) rfl ?_)
                            refine ops_cons rfl (op_store ti31 rfl rfl rfl rfl rfl rfl rfl rfl rfl rfl rfl ?_)
                            refine ops_nil ?_
                            refine seq_normal ?_
                            refine runs_seq ?_
                            have hne : (tokR s p).1 ≠ .empty := by rw [h10]; decide
                            have hsz1 : (tokR s p).1.size = 1 := by rw [h10]; rfl
                            have hnx := nextR_ok hne
                            have hpr : p < (nextR s ⟨p, none⟩).2.p := by rw [hnx]; simp only; omega
                            have hpr2 := hn2.1
                            obtain ⟨k1, s1, a1, hX1⟩ := Lvl.case (levelR n s (nextR s (nextR s ⟨p, none⟩).2).2).1
                            obtain ⟨k2, s2, a2, hX2⟩ := Lvl.case (levelR n s (levelR n s (nextR s (nextR s ⟨p, none⟩).2).2).2).1
                            refine any_start mixed rfl rfl ?_
                            first
                            | refine any_fl 0 rfl rfl rfl rfl (by kernel_rfl) rfl (fl_field_blk ti31 rfl rfl rfl rfl ⟨_, rfl, ?_⟩)
                            | refine any_fl 0 rfl rfl rfl rfl (by kernel_rfl) rfl (fl_field_cp ti31 rfl rfl rfl rfl rfl ⟨_, rfl, ?_⟩)
                            first
                            | refine any_fl 1 rfl rfl rfl rfl (by kernel_rfl) rfl (fl_load_blk ti29 rfl rfl rfl rfl rfl rfl rfl ⟨_, rfl, ?_⟩)
                            | refine any_fl 1 rfl rfl rfl rfl (by kernel_rfl) rfl (fl_load_cp ti29 rfl rfl rfl rfl rfl rfl ⟨_, rfl, ?_⟩)
                            refine any_fl 2 rfl rfl rfl rfl (by kernel_rfl) rfl (fl_move rfl rfl ⟨_, rfl, ?_⟩)
                            refine any_st 3 rfl rfl (by kernel_rfl) rfl rfl (by intro p hp; simp only [List.mem_cons, List.not_mem_nil, or_false] at hp; all_goals (first | exact hp.elim | (subst hp; exact ⟨by simp, _, _, rfl⟩) | (rcases hp with rfl | rfl <;> exact ⟨by simp, _, _, rfl⟩) | (rcases hp with rfl | rfl | rfl <;> exact ⟨by simp, _, _, rfl⟩) | (rcases hp with rfl | rfl | rfl | rfl <;> exact ⟨by simp, _, _, rfl⟩) | (rcases hp with rfl | rfl | rfl | rfl | rfl <;> exact ⟨by simp, _, _, rfl⟩))) (op_callo ca25 rfl rfl rfl rfl (ih (nextR s (nextR s ⟨p, none⟩).2).2 hn2.2 (by omega)) [0] (.cons rfl (by first | exact .cells rfl (FitL.rfl _) | exact .row | exact .nrow | exact .mapI | exact .nnrow | (refine .cells rfl ?_; repeat (first | exact .nil | refine .cons (by first | exact .refl _ | exact .toD rfl | exact .nil rfl | exact .nilD) ?_))) .nil) rfl rfl rfl rfl (.cons (by first | exact .refl _ | exact .toD rfl | exact .nil rfl | exact .nilD | exact .dle rfl (by repeat' (first | exact DLe.refl _ | exact DLe.nil | exact DLeL.nil | exact DLeLL.nil | apply DLe.agg | apply DLe.tup | apply DLe.sl | apply DLe.cp | apply DLeL.cons | apply DLeLL.cons))) .nil) (fun s ob' hq => ?_) (fun s ob' hq => ?_))
                            rotate_left
                            · first | exact hq.elim | cases hq.1
                            obtain ⟨hq1, rfl⟩ := hq; rw [hX1] at hq1; cases hq1
                            refine ⟨_, _, _, _, _, rfl, rfl, rfl, rfl, rfl, ?_⟩
                            refine any_st (T := fun _ => False) 4 rfl rfl (by kernel_rfl) rfl rfl (by intro p hp; simp only [List.mem_cons, List.not_mem_nil, or_false] at hp; all_goals (first | exact hp.elim | (subst hp; exact ⟨by simp, _, _, rfl⟩) | (rcases hp with rfl | rfl <;> exact ⟨by simp, _, _, rfl⟩) | (rcases hp with rfl | rfl | rfl <;> exact ⟨by simp, _, _, rfl⟩) | (rcases hp with rfl | rfl | rfl | rfl <;> exact ⟨by simp, _, _, rfl⟩) | (rcases hp with rfl | rfl | rfl | rfl | rfl <;> exact ⟨by simp, _, _, rfl⟩))) (op_lit sl29 [.tmp 72] ti31 rfl rfl rfl rfl rfl rfl rfl (by decide) (by decide) (by decide) (by simp only [List.length_cons, List.length_nil, Nat.reduceAdd]; rfl) rfl ?_)
                            refine any_st (T := fun _ => False) 5 rfl rfl (by kernel_rfl) rfl rfl (by intro p hp; simp only [List.mem_cons, List.not_mem_nil, or_false] at hp; all_goals (first | exact hp.elim | (subst hp; exact ⟨by simp, _, _, rfl⟩) | (rcases hp with rfl | rfl <;> exact ⟨by simp, _, _, rfl⟩) | (rcases hp with rfl | rfl | rfl <;> exact ⟨by simp, _, _, rfl⟩) | (rcases hp with rfl | rfl | rfl | rfl <;> exact ⟨by simp, _, _, rfl⟩) | (rcases hp with rfl | rfl | rfl | rfl | rfl <;> exact ⟨by simp, _, _, rfl⟩))) (op_append_nil sl29 rfl rfl rfl rfl rfl rfl (by simp only [List.length_cons, List.length_nil, Nat.reduceAdd]; rfl) rfl rfl (by decide) (by simp) (by first | decide | (simp only [maxLen, List.length_cons, List.length_nil, List.length_append, List.length_map]; omega) | omega) rfl rfl rfl ?_)
                            first
                            | refine any_fl 6 rfl rfl rfl rfl (by kernel_rfl) rfl (fl_field_blk ti31 rfl rfl rfl rfl ⟨_, rfl, ?_⟩)
                            | refine any_fl 6 rfl rfl rfl rfl (by kernel_rfl) rfl (fl_field_cp ti31 rfl rfl rfl rfl rfl ⟨_, rfl, ?_⟩)
                            refine any_st 7 rfl rfl (by kernel_rfl) rfl rfl (by intro p hp; simp only [List.mem_cons, List.not_mem_nil, or_false] at hp; all_goals (first | exact hp.elim | (subst hp; exact ⟨by simp, _, _, rfl⟩) | (rcases hp with rfl | rfl <;> exact ⟨by simp, _, _, rfl⟩) | (rcases hp with rfl | rfl | rfl <;> exact ⟨by simp, _, _, rfl⟩) | (rcases hp with rfl | rfl | rfl | rfl <;> exact ⟨by simp, _, _, rfl⟩) | (rcases hp with rfl | rfl | rfl | rfl | rfl <;> exact ⟨by simp, _, _, rfl⟩))) (op_store ti29 rfl rfl rfl rfl rfl rfl rfl rfl rfl rfl rfl ?_)
                            refine any_end (by kernel_rfl) ?_
                            refine seq_normal ?_
                            refine runs_seq ?_
                            refine runs_seq ?_
                            refine runs_keep [11, 10, 2, 0] rfl ?_
                            refine runs_region ?_
                            refine ops_fl rfl rfl rfl (fl_move rfl rfl ?_)
                            refine ops_fl rfl rfl rfl (fl_neq rfl rfl rfl ?_)
                            refine ops_nil ?_
                            refine seq_normal ?_
                            refine runs_cond rfl (fun h27 => ?_) (fun h27 => ?_)
                            · try simp only [decide_eq_true_eq, decide_eq_false_iff_not, Bool.not_eq_true', Bool.not_eq_false', Bool.not_true, Bool.not_false, Int.not_lt, Int.not_le, Bool.and_eq_true, Bool.or_eq_true, Bool.and_eq_false_iff, Bool.or_eq_false_iff, Bool.false_eq_true, Bool.true_eq_false, not_true_eq_false, not_false_eq_true, decide_true, decide_false, true_and, and_true, false_and, and_false, true_or, or_true, false_or, or_false, Bool.true_and, Bool.false_and, Bool.and_true, Bool.and_false, Bool.true_or, Bool.false_or, Bool.or_true, Bool.or_false, Int.reduceEq, Int.reduceNe, Int.reduceLT, Int.reduceLE, Int.toNat_natCast, toNat_add1, fcode, fat] at h27
                              all_goals try (first | contradiction | (exfalso; omega))
                              all_goals (
                                refine any_start mixed rfl rfl ?_
                                first
                                | refine any_fl 0 rfl rfl rfl rfl (by kernel_rfl) rfl (fl_field_blk ti31 rfl rfl rfl rfl ⟨_, rfl, ?_⟩)
                                | refine any_fl 0 rfl rfl rfl rfl (by kernel_rfl) rfl (fl_field_cp ti31 rfl rfl rfl rfl rfl ⟨_, rfl, ?_⟩)
                                first
                                | refine any_fl 1 rfl rfl rfl rfl (by kernel_rfl) rfl (fl_load_blk ti29 rfl rfl rfl rfl rfl rfl rfl ⟨_, rfl, ?_⟩)
                                | refine any_fl 1 rfl rfl rfl rfl (by kernel_rfl) rfl (fl_load_cp ti29 rfl rfl rfl rfl rfl rfl ⟨_, rfl, ?_⟩)
                                refine any_fl 2 rfl rfl rfl rfl (by kernel_rfl) rfl (fl_move rfl rfl ⟨_, rfl, ?_⟩)
                                refine any_st 3 rfl rfl (by kernel_rfl) rfl rfl (by intro p hp; simp only [List.mem_cons, List.not_mem_nil, or_false] at hp; all_goals (first | exact hp.elim | (subst hp; exact ⟨by simp, _, _, rfl⟩) | (rcases hp with rfl | rfl <;> exact ⟨by simp, _, _, rfl⟩) | (rcases hp with rfl | rfl | rfl <;> exact ⟨by simp, _, _, rfl⟩) | (rcases hp with rfl | rfl | rfl | rfl <;> exact ⟨by simp, _, _, rfl⟩) | (rcases hp with rfl | rfl | rfl | rfl | rfl <;> exact ⟨by simp, _, _, rfl⟩))) (op_callo ca25 rfl rfl rfl rfl (ih (levelR n s (nextR s (nextR s ⟨p, none⟩).2).2).2 hl1.2 (by have := hl1.1; omega)) [0] (.cons rfl (by first | exact .cells rfl (FitL.rfl _) | exact .row | exact .nrow | exact .mapI | exact .nnrow | (refine .cells rfl ?_; repeat (first | exact .nil | refine .cons (by first | exact .refl _ | exact .toD rfl | exact .nil rfl | exact .nilD) ?_))) .nil) rfl rfl rfl rfl (.cons (by first | exact .refl _ | exact .toD rfl | exact .nil rfl | exact .nilD | exact .dle rfl (by repeat' (first | exact DLe.refl _ | exact DLe.nil | exact DLeL.nil | exact DLeLL.nil | apply DLe.agg | apply DLe.tup | apply DLe.sl | apply DLe.cp | apply DLeL.cons | apply DLeLL.cons))) .nil) (fun s ob' hq => ?_) (fun s ob' hq => ?_))
                                rotate_left
                                · first | exact hq.elim | cases hq.1
                                obtain ⟨hq1, rfl⟩ := hq; rw [hX2] at hq1; cases hq1
                                refine ⟨_, _, _, _, _, rfl, rfl, rfl, rfl, rfl, ?_⟩
                                refine any_st (T := fun _ => False) 4 rfl rfl (by kernel_rfl) rfl rfl (by intro p hp; simp only [List.mem_cons, List.not_mem_nil, or_false] at hp; all_goals (first | exact hp.elim | (subst hp; exact ⟨by simp, _, _, rfl⟩) | (rcases hp with rfl | rfl <;> exact ⟨by simp, _, _, rfl⟩) | (rcases hp with rfl | rfl | rfl <;> exact ⟨by simp, _, _, rfl⟩) | (rcases hp with rfl | rfl | rfl | rfl <;> exact ⟨by simp, _, _, rfl⟩) | (rcases hp with rfl | rfl | rfl | rfl | rfl <;> exact ⟨by simp, _, _, rfl⟩))) (op_lit sl29 [.tmp 81] ti31 rfl rfl rfl rfl rfl rfl rfl (by decide) (by decide) (by decide) (by simp only [List.length_cons, List.length_nil, Nat.reduceAdd]; rfl) rfl ?_)
                                refine any_st 5 rfl rfl (by kernel_rfl) rfl rfl (by intro p hp; simp only [List.mem_cons, List.not_mem_nil, or_false] at hp; all_goals (first | exact hp.elim | (subst hp; exact ⟨by simp, _, _, rfl⟩) | (rcases hp with rfl | rfl <;> exact ⟨by simp, _, _, rfl⟩) | (rcases hp with rfl | rfl | rfl <;> exact ⟨by simp, _, _, rfl⟩) | (rcases hp with rfl | rfl | rfl | rfl <;> exact ⟨by simp, _, _, rfl⟩) | (rcases hp with rfl | rfl | rfl | rfl | rfl <;> exact ⟨by simp, _, _, rfl⟩))) (op_append sl29 rfl rfl rfl rfl rfl rfl rfl (.inl rfl) (by decide) (by simp) (by first | decide | (simp only [maxLen, List.length_cons, List.length_nil, List.length_append, List.length_map]; omega) | omega) rfl rfl rfl ?_)
                                first
                                | refine any_fl 6 rfl rfl rfl rfl (by kernel_rfl) rfl (fl_field_blk ti31 rfl rfl rfl rfl ⟨_, rfl, ?_⟩)
                                | refine any_fl 6 rfl rfl rfl rfl (by kernel_rfl) rfl (fl_field_cp ti31 rfl rfl rfl rfl rfl ⟨_, rfl, ?_⟩)
                                refine any_st 7 rfl rfl (by kernel_rfl) rfl rfl (by intro p hp; simp only [List.mem_cons, List.not_mem_nil, or_false] at hp; all_goals (first | exact hp.elim | (subst hp; exact ⟨by simp, _, _, rfl⟩) | (rcases hp with rfl | rfl <;> exact ⟨by simp, _, _, rfl⟩) | (rcases hp with rfl | rfl | rfl <;> exact ⟨by simp, _, _, rfl⟩) | (rcases hp with rfl | rfl | rfl | rfl <;> exact ⟨by simp, _, _, rfl⟩) | (rcases hp with rfl | rfl | rfl | rfl | rfl <;> exact ⟨by simp, _, _, rfl⟩))) (op_store ti29 rfl rfl rfl rfl rfl rfl rfl rfl rfl rfl rfl ?_)
                                refine any_end (by kernel_rfl) ?_
                                refine seq_normal ?_
                                refine runs_seq ?_
                                refine runs_keep [11, 2, 0] rfl ?_
                                refine runs_region ?_
                                refine ops_fl rfl rfl rfl (fl_move rfl rfl ?_)
                                refine ops_cons rfl (op_callo ca45 rfl rfl rfl rfl (take_spec s ⟨#[41]⟩ (levelR n s (levelR n s (nextR s (nextR s ⟨p, none⟩).2).2).2).2 hs hl2.2) [0] (.cons rfl (by first | exact .cells rfl (FitL.rfl _) | exact .row | exact .nrow | exact .mapI | exact .nnrow | (refine .cells rfl ?_; repeat (first | exact .nil | refine .cons (by first | exact .refl _ | exact .toD rfl | exact .nil rfl | exact .nilD) ?_))) .nil) rfl rfl rfl rfl (.cons (by first | exact .refl _ | exact .toD rfl | exact .nil rfl | exact .nilD | exact .dle rfl (by repeat' (first | exact DLe.refl _ | exact DLe.nil | exact DLeL.nil | exact DLeLL.nil | apply DLe.agg | apply DLe.tup | apply DLe.sl | apply DLe.cp | apply DLeL.cons | apply DLeLL.cons))) (.cons (by first | exact .refl _ | exact .toD rfl | exact .nil rfl | exact .nilD | exact .dle rfl (by repeat' (first | exact DLe.refl _ | exact DLe.nil | exact DLeL.nil | exact DLeLL.nil | apply DLe.agg | apply DLe.tup | apply DLe.sl | apply DLe.cp | apply DLeL.cons | apply DLeLL.cons))) .nil)) (fun s ob' hq => ?_) (fun s ob' hq => ?_))
                                rotate_left
                                · first | exact hq.elim | cases hq.1
                                obtain ⟨hq1, rfl⟩ := hq
                                cases hq1
                                refine ⟨_, _, _, _, _, rfl, rfl, rfl, rfl, rfl, ?_⟩
                                refine ops_nil ?_
                                refine seq_normal ?_
                                refine runs_seq ?_
                                refine runs_region ?_
                                first
                                | refine ops_fl rfl rfl rfl (fl_load_blk ti31 rfl rfl rfl rfl rfl rfl rfl ?_)
                                | refine ops_fl rfl rfl rfl (fl_load_cp ti31 rfl rfl rfl rfl rfl rfl ?_)
                                | refine ops_fl rfl rfl rfl (fl_load_all ti31 rfl rfl rfl rfl (by first | rfl | exact Lvl.cells_len _) ?_)
                                refine ops_cons rfl (op_store ti31 rfl rfl rfl rfl rfl rfl rfl rfl rfl rfl rfl ?_)
                                refine ops_nil ?_
                                refine seq_normal ?_
                                refine runs_ret ?_
                                refine inb_ret ?_
                                refine seq_ret ?_
                                refine fin_ret ?_
                                refine fin_odl ⟨_, _, rfl, (from_cell rfl rfl ti31 rfl rfl rfl rfl), rfl⟩ rfl ((Lvl.mk (kindR (tokR s (nextR s ⟨p, none⟩).2.p).1) .empty [Lvl.mk k1 s1 a1, Lvl.mk k2 s2 a2]).d) (by repeat' (first | exact DLe.refl _ | exact DLe.nil | exact DLeL.nil | exact DLeLL.nil | apply DLe.agg | apply DLe.tup | apply DLe.sl | apply DLe.cp | apply DLeL.cons | apply DLeLL.cons)) ([0]) ([rdO s (takeR s ⟨#[41]⟩ (levelR n s (levelR n s (nextR s (nextR s ⟨p, none⟩).2).2).2).2)]) rfl rfl rfl ?_ ?_
                                · repeat (first | exact .nil | refine .cons rfl (.cells rfl (FitL.rfl _)) ?_ | refine .cons rfl .row ?_ | refine .cons rfl .mapI ?_ | refine .cons rfl .nnrow ?_ | refine .cons rfl .nrow ?_ | refine .cons rfl .dead ?_ | refine .cons rfl (.cells rfl ?_) ?_ | refine .cons (by first | exact .refl _ | exact .toD rfl | exact .nilD) ?_)
                                · rw [levelR_two h5 h7 h10 h21 h27, hX1, hX2]; exact ⟨rfl, rfl⟩
                              )
                            · try simp only [decide_eq_true_eq, decide_eq_false_iff_not, Bool.not_eq_true', Bool.not_eq_false', Bool.not_true, Bool.not_false, Int.not_lt, Int.not_le, Bool.and_eq_true, Bool.or_eq_true, Bool.and_eq_false_iff, Bool.or_eq_false_iff, Bool.false_eq_true, Bool.true_eq_false, not_true_eq_false, not_false_eq_true, decide_true, decide_false, true_and, and_true, false_and, and_false, true_or, or_true, false_or, or_false, Bool.true_and, Bool.false_and, Bool.and_true, Bool.and_false, Bool.true_or, Bool.false_or, Bool.or_true, Bool.or_false, Int.reduceEq, Int.reduceNe, Int.reduceLT, Int.reduceLE, Int.toNat_natCast, toNat_add1, fcode, fat] at h27
                              all_goals try (first | contradiction | (exfalso; omega))
                              all_goals (
                                refine runs_skip ?_
                                refine seq_normal ?_
                                refine runs_seq ?_
                                refine runs_region ?_
                                refine ops_fl rfl rfl rfl (fl_move rfl rfl ?_)
                                refine ops_cons rfl (op_callo ca45 rfl rfl rfl rfl (take_spec s ⟨#[41]⟩ (levelR n s (nextR s (nextR s ⟨p, none⟩).2).2).2 hs hl1.2) [0] (.cons rfl (by first | exact .cells rfl (FitL.rfl _) | exact .row | exact .nrow | exact .mapI | exact .nnrow | (refine .cells rfl ?_; repeat (first | exact .nil | refine .cons (by first | exact .refl _ | exact .toD rfl | exact .nil rfl | exact .nilD) ?_))) .nil) rfl rfl rfl rfl (.cons (by first | exact .refl _ | exact .toD rfl | exact .nil rfl | exact .nilD | exact .dle rfl (by repeat' (first | exact DLe.refl _ | exact DLe.nil | exact DLeL.nil | exact DLeLL.nil | apply DLe.agg | apply DLe.tup | apply DLe.sl | apply DLe.cp | apply DLeL.cons | apply DLeLL.cons))) (.cons (by first | exact .refl _ | exact .toD rfl | exact .nil rfl | exact .nilD | exact .dle rfl (by repeat' (first | exact DLe.refl _ | exact DLe.nil | exact DLeL.nil | exact DLeLL.nil | apply DLe.agg | apply DLe.tup | apply DLe.sl | apply DLe.cp | apply DLeL.cons | apply DLeLL.cons))) .nil)) (fun s ob' hq => ?_) (fun s ob' hq => ?_))
                                rotate_left
                                · first | exact hq.elim | cases hq.1
                                obtain ⟨hq1, rfl⟩ := hq
                                cases hq1
                                refine ⟨_, _, _, _, _, rfl, rfl, rfl, rfl, rfl, ?_⟩
                                refine ops_nil ?_
                                refine seq_normal ?_
                                refine runs_seq ?_
                                refine runs_keep [11, 2] rfl ?_
                                refine runs_region ?_
                                first
                                | refine ops_fl rfl rfl rfl (fl_load_blk ti31 rfl rfl rfl rfl rfl rfl rfl ?_)
                                | refine ops_fl rfl rfl rfl (fl_load_cp ti31 rfl rfl rfl rfl rfl rfl ?_)
                                | refine ops_fl rfl rfl rfl (fl_load_all ti31 rfl rfl rfl rfl (by first | rfl | exact Lvl.cells_len _) ?_)
                                refine ops_cons rfl (op_store ti31 rfl rfl rfl rfl rfl rfl rfl rfl rfl rfl rfl ?_)
                                refine ops_nil ?_
                                refine seq_normal ?_
                                refine runs_ret ?_
                                refine inb_ret ?_
                                refine seq_ret ?_
                                refine fin_ret ?_
                                refine fin_odl ⟨_, _, rfl, (from_cell rfl rfl ti31 rfl rfl rfl rfl), rfl⟩ rfl ((Lvl.mk (kindR (tokR s (nextR s ⟨p, none⟩).2.p).1) .empty [Lvl.mk k1 s1 a1]).d) (by repeat' (first | exact DLe.refl _ | exact DLe.nil | exact DLeL.nil | exact DLeLL.nil | apply DLe.agg | apply DLe.tup | apply DLe.sl | apply DLe.cp | apply DLeL.cons | apply DLeLL.cons)) ([0]) ([rdO s (takeR s ⟨#[41]⟩ (levelR n s (nextR s (nextR s ⟨p, none⟩).2).2).2)]) rfl rfl rfl ?_ ?_
                                · repeat (first | exact .nil | refine .cons rfl (.cells rfl (FitL.rfl _)) ?_ | refine .cons rfl .row ?_ | refine .cons rfl .mapI ?_ | refine .cons rfl .nnrow ?_ | refine .cons rfl .nrow ?_ | refine .cons rfl .dead ?_ | refine .cons rfl (.cells rfl ?_) ?_ | refine .cons (by first | exact .refl _ | exact .toD rfl | exact .nilD) ?_)
                                · rw [levelR_one h5 h7 h10 h27, hX1, h27]; exact ⟨rfl, rfl⟩
                              )
                          )
                    )
                  · try simp only [decide_eq_true_eq, decide_eq_false_iff_not, Bool.not_eq_true', Bool.not_eq_false', Bool.not_true, Bool.not_false, Int.not_lt, Int.not_le, Bool.and_eq_true, Bool.or_eq_true, Bool.and_eq_false_iff, Bool.or_eq_false_iff, Bool.false_eq_true, Bool.true_eq_false, not_true_eq_false, not_false_eq_true, decide_true, decide_false, true_and, and_true, false_and, and_false, true_or, or_true, false_or, or_false, Bool.true_and, Bool.false_and, Bool.and_true, Bool.and_false, Bool.true_or, Bool.false_or, Bool.or_true, Bool.or_false, Int.reduceEq, Int.reduceNe, Int.reduceLT, Int.reduceLE, Int.toNat_natCast, toNat_add1, fcode, fat] at h10
                    all_goals try (first | contradiction | (exfalso; omega))
                    all_goals (
                      refine runs_keep [4, 2, 0] rfl ?_
                      refine runs_region ?_
                      refine ops_fl rfl rfl rfl (fl_move rfl rfl ?_)
                      refine ops_fl rfl rfl rfl (fl_move rfl rfl ?_)
                      refine ops_cons rfl (op_callo ca44 rfl rfl rfl rfl (fail_spec s (tokR s p).2.1 ⟨p, none⟩) [0] (.cons rfl (by first | exact .cells rfl (FitL.rfl _) | exact .row | exact .nrow | exact .mapI | exact .nnrow | (refine .cells rfl ?_; repeat (first | exact .nil | refine .cons (by first | exact .refl _ | exact .toD rfl | exact .nil rfl | exact .nilD) ?_))) .nil) rfl rfl rfl rfl (.cons (by first | exact .refl _ | exact .toD rfl | exact .nil rfl | exact .nilD | exact .dle rfl (by repeat' (first | exact DLe.refl _ | exact DLe.nil | exact DLeL.nil | exact DLeLL.nil | apply DLe.agg | apply DLe.tup | apply DLe.sl | apply DLe.cp | apply DLeL.cons | apply DLeLL.cons))) (.cons (by first | exact .refl _ | exact .toD rfl | exact .nil rfl | exact .nilD | exact .dle rfl (by repeat' (first | exact DLe.refl _ | exact DLe.nil | exact DLeL.nil | exact DLeLL.nil | apply DLe.agg | apply DLe.tup | apply DLe.sl | apply DLe.cp | apply DLeL.cons | apply DLeLL.cons))) .nil)) (fun s ob' hq => ?_) (fun s ob' hq => ?_))
                      rotate_left
                      · first | exact hq.elim | cases hq.1
                      obtain ⟨hq1, rfl⟩ := hq
                      cases hq1
                      refine ⟨_, _, _, _, _, rfl, rfl, rfl, rfl, rfl, ?_⟩
                      refine ops_nil ?_
                      refine inb_normal ?_
                      refine seq_normal ?_
                      refine runs_seq ?_
                      refine runs_keep [2] rfl ?_
                      refine runs_region ?_
                      refine ops_fl rfl rfl rfl (fl_build ti31 rfl rfl rfl rfl rfl rfl rfl ?_)
                      refine ops_cons rfl (op_store ti31 rfl rfl rfl rfl rfl rfl rfl rfl rfl rfl rfl ?_)
                      refine ops_nil ?_
                      refine seq_normal ?_
                      refine runs_ret ?_
                      refine fin_ret ?_
                      refine fin_odl ⟨_, _, rfl, (from_cell rfl rfl ti31 rfl rfl rfl rfl), rfl⟩ rfl (zeroL.d) (by repeat' (first | exact DLe.refl _ | exact DLe.nil | exact DLeL.nil | exact DLeLL.nil | apply DLe.agg | apply DLe.tup | apply DLe.sl | apply DLe.cp | apply DLeL.cons | apply DLeLL.cons)) ([0]) ([rdO s ((RS.mk p none).fail (tokR s p).2.1)]) rfl rfl rfl ?_ ?_
                      · repeat (first | exact .nil | refine .cons rfl (.cells rfl (FitL.rfl _)) ?_ | refine .cons rfl .row ?_ | refine .cons rfl .mapI ?_ | refine .cons rfl .nnrow ?_ | refine .cons rfl .nrow ?_ | refine .cons rfl .dead ?_ | refine .cons rfl (.cells rfl ?_) ?_ | refine .cons (by first | exact .refl _ | exact .toD rfl | exact .nilD) ?_)
                      · rw [levelR_else h5 h7 h10]; exact ⟨rfl, rfl⟩
                    )
                )
            )
        )

theorem parseLevel_spec (s : ByteArray) : TriD Tryd.prog gl 9 [.v (.string s)] (· = .tup [(parseR s).1.d, .agg [.v (.int .i64 (parseR s).2.1), .v (.int .i64 (parseR s).2.2)]]) := by
  refine triD_of_runs Tryd.func9 rfl Tryd.ntmps9 (rs := [.cell 2 31, .cell 3 33]) rfl rfl rfl ?_
  refine runs_seq ?_
  refine runs_region ?_
  refine ops_cons (T := fun _ => False) rfl (op_alloc ti31 rfl rfl rfl rfl rfl (by simp only [List.length_cons, List.length_nil, Nat.reduceAdd]; rfl) rfl ?_)
  refine ops_cons (T := fun _ => False) rfl (op_alloc ti33 rfl rfl rfl rfl rfl (by simp only [List.length_cons, List.length_nil, Nat.reduceAdd]; rfl) rfl ?_)
  refine ops_nil ?_
  refine seq_normal ?_
  refine runs_seq ?_
  refine runs_seq ?_
  refine runs_region ?_
  refine ops_fl rfl rfl rfl (fl_move rfl rfl ?_)
  refine ops_fl rfl rfl rfl (fl_len_s ut9 rfl rfl ?_)
  refine ops_fl rfl rfl rfl (fl_gtr rfl rfl rfl ?_)
  refine ops_nil ?_
  refine seq_normal ?_
  refine runs_cond rfl (fun h1 => ?_) (fun h1 => ?_)
  · try simp only [decide_eq_true_eq, decide_eq_false_iff_not, Bool.not_eq_true', Bool.not_eq_false', Bool.not_true, Bool.not_false, Int.not_lt, Int.not_le, Bool.and_eq_true, Bool.or_eq_true, Bool.and_eq_false_iff, Bool.or_eq_false_iff, Bool.false_eq_true, Bool.true_eq_false, not_true_eq_false, not_false_eq_true, decide_true, decide_false, true_and, and_true, false_and, and_false, true_or, or_true, false_or, or_false, Bool.true_and, Bool.false_and, Bool.and_true, Bool.and_false, Bool.true_or, Bool.false_or, Bool.or_true, Bool.or_false, Int.reduceEq, Int.reduceNe, Int.reduceLT, Int.reduceLE, Int.toNat_natCast, toNat_add1] at h1
    all_goals try (first | contradiction | (exfalso; omega))
    all_goals (
      refine runs_seq ?_
      refine runs_keep [3, 2] rfl ?_
      refine runs_region ?_
      refine ops_fl rfl rfl rfl (fl_build ti31 rfl rfl rfl rfl rfl rfl rfl ?_)
      refine ops_fl rfl rfl rfl (fl_build ti33 rfl rfl rfl rfl rfl rfl rfl ?_)
      refine ops_cons rfl (op_store ti31 rfl rfl rfl rfl rfl rfl rfl rfl rfl rfl rfl ?_)
      refine ops_cons rfl (op_store ti33 rfl rfl rfl rfl rfl rfl rfl rfl rfl rfl rfl ?_)
      refine ops_nil ?_
      refine seq_normal ?_
      refine runs_ret ?_
      refine seq_ret ?_
      refine fin_ret ?_
      refine fin_dl ⟨_, _, rfl, (from_cell rfl rfl ti31 rfl rfl rfl rfl), ⟨_, _, rfl, (from_cell rfl rfl ti33 rfl rfl rfl rfl), rfl⟩⟩ rfl (.tup [zeroL.d, .agg [.v (.int .i64 2), .v (.int .i64 0)]]) (by repeat' (first | exact DLe.refl _ | exact DLe.nil | exact DLeL.nil | exact DLeLL.nil | apply DLe.agg | apply DLe.tup | apply DLe.sl | apply DLe.cp | apply DLeL.cons | apply DLeLL.cons)) ?_
      unfold parseR; rw [if_pos (by omega)]
    )
  · try simp only [decide_eq_true_eq, decide_eq_false_iff_not, Bool.not_eq_true', Bool.not_eq_false', Bool.not_true, Bool.not_false, Int.not_lt, Int.not_le, Bool.and_eq_true, Bool.or_eq_true, Bool.and_eq_false_iff, Bool.or_eq_false_iff, Bool.false_eq_true, Bool.true_eq_false, not_true_eq_false, not_false_eq_true, decide_true, decide_false, true_and, and_true, false_and, and_false, true_or, or_true, false_or, or_false, Bool.true_and, Bool.false_and, Bool.and_true, Bool.and_false, Bool.true_or, Bool.false_or, Bool.or_true, Bool.or_false, Int.reduceEq, Int.reduceNe, Int.reduceLT, Int.reduceLE, Int.toNat_natCast, toNat_add1] at h1
    all_goals try (first | contradiction | (exfalso; omega))
    all_goals (
      refine runs_skip ?_
      refine seq_normal ?_
      refine runs_seq ?_
      refine runs_region ?_
      refine ops_fl rfl rfl rfl (fl_move rfl rfl ?_)
      refine ops_fl rfl rfl rfl (fl_build ti53 rfl rfl rfl rfl rfl rfl rfl ?_)
      refine ops_cons (T := fun _ => False) rfl (op_box ti53 rfl rfl rfl rfl rfl (by simp only [List.length_cons, List.length_nil, Nat.reduceAdd]; rfl) rfl ?_)
      refine ops_fl rfl rfl rfl (fl_assign rfl rfl ?_)
      refine ops_nil ?_
      refine seq_normal ?_
      refine runs_seq ?_
      refine runs_keep [4, 3, 2] rfl ?_
      obtain ⟨k1, s1, a1, hX⟩ := Lvl.case (levelR (s.size + 1) s ⟨0, none⟩).1
      have hs : s.size ≤ 1099511627776 := by omega
      have hle := levelR_le (s := s) (s.size + 1) (r := ⟨0, none⟩) (Nat.zero_le _)
      refine runs_region ?_
      refine ops_fl rfl rfl rfl (fl_move rfl rfl ?_)
      refine ops_cons rfl (op_callo ca25 rfl rfl rfl rfl (level_spec s hs (s.size + 1) ⟨0, none⟩ (Nat.zero_le _) (by simp)) [2] (.cons rfl (by first | exact .cells rfl (FitL.rfl _) | exact .row | exact .nrow | exact .mapI | exact .nnrow | (refine .cells rfl ?_; repeat (first | exact .nil | refine .cons (by first | exact .refl _ | exact .toD rfl | exact .nil rfl | exact .nilD) ?_))) .nil) rfl rfl rfl rfl (.cons (by first | exact .refl _ | exact .toD rfl | exact .nil rfl | exact .nilD | exact .dle rfl (by repeat' (first | exact DLe.refl _ | exact DLe.nil | exact DLeL.nil | exact DLeLL.nil | apply DLe.agg | apply DLe.tup | apply DLe.sl | apply DLe.cp | apply DLeL.cons | apply DLeLL.cons))) .nil) (fun s ob' hq => ?_) (fun s ob' hq => ?_))
      rotate_left
      · first | exact hq.elim | cases hq.1
      obtain ⟨hq1, rfl⟩ := hq; rw [hX] at hq1; cases hq1
      refine ⟨_, _, _, _, _, rfl, rfl, rfl, rfl, rfl, ?_⟩
      refine ops_cons (T := fun _ => False) rfl (op_alloc ti31 rfl rfl rfl rfl rfl (by simp only [List.length_cons, List.length_nil, Nat.reduceAdd]; rfl) rfl ?_)
      refine ops_cons rfl (op_store ti31 rfl rfl rfl rfl rfl rfl rfl rfl rfl rfl rfl ?_)
      refine ops_nil ?_
      refine seq_normal ?_
      refine runs_seq ?_
      refine runs_region ?_
      refine ops_fl rfl rfl rfl (fl_move rfl rfl ?_)
      refine ops_cons rfl (op_callo ca26 rfl rfl rfl rfl (done_spec s (levelR (s.size + 1) s ⟨0, none⟩).2 hs hle.2) [2] (.cons rfl (by first | exact .cells rfl (FitL.rfl _) | exact .row | exact .nrow | exact .mapI | exact .nnrow | (refine .cells rfl ?_; repeat (first | exact .nil | refine .cons (by first | exact .refl _ | exact .toD rfl | exact .nil rfl | exact .nilD) ?_))) .nil) rfl rfl rfl rfl (.cons (by first | exact .refl _ | exact .toD rfl | exact .nil rfl | exact .nilD | exact .dle rfl (by repeat' (first | exact DLe.refl _ | exact DLe.nil | exact DLeL.nil | exact DLeLL.nil | apply DLe.agg | apply DLe.tup | apply DLe.sl | apply DLe.cp | apply DLeL.cons | apply DLeLL.cons))) .nil) (fun s ob' hq => ?_) (fun s ob' hq => ?_))
      rotate_left
      · first | exact hq.elim | cases hq.1
      obtain ⟨hq1, rfl⟩ := hq
      cases hq1
      refine ⟨_, _, _, _, _, rfl, rfl, rfl, rfl, rfl, ?_⟩
      refine ops_cons (T := fun _ => False) rfl (op_alloc ti33 rfl rfl rfl rfl rfl (by simp only [List.length_cons, List.length_nil, Nat.reduceAdd]; rfl) rfl ?_)
      refine ops_cons rfl (op_store ti33 rfl rfl rfl rfl rfl rfl rfl rfl rfl rfl rfl ?_)
      refine ops_nil ?_
      refine seq_normal ?_
      refine runs_seq ?_
      refine runs_seq ?_
      refine runs_keep [6, 5, 3, 2] rfl ?_
      refine runs_region ?_
      first
      | refine ops_fl rfl rfl rfl (fl_field_blk ti33 rfl rfl rfl rfl ?_)
      | refine ops_fl rfl rfl rfl (fl_field_cp ti33 rfl rfl rfl rfl rfl ?_)
      first
      | refine ops_fl rfl rfl rfl (fl_load_blk ti3 rfl rfl rfl rfl rfl rfl rfl ?_)
      | refine ops_fl rfl rfl rfl (fl_load_cp ti3 rfl rfl rfl rfl rfl rfl ?_)
      refine ops_fl rfl rfl rfl (fl_neq rfl rfl rfl ?_)
      refine ops_nil ?_
      refine seq_normal ?_
      refine runs_cond rfl (fun h6 => ?_) (fun h6 => ?_)
      · try simp only [decide_eq_true_eq, decide_eq_false_iff_not, Bool.not_eq_true', Bool.not_eq_false', Bool.not_true, Bool.not_false, Int.not_lt, Int.not_le, Bool.and_eq_true, Bool.or_eq_true, Bool.and_eq_false_iff, Bool.or_eq_false_iff, Bool.false_eq_true, Bool.true_eq_false, not_true_eq_false, not_false_eq_true, decide_true, decide_false, true_and, and_true, false_and, and_false, true_or, or_true, false_or, or_false, Bool.true_and, Bool.false_and, Bool.and_true, Bool.and_false, Bool.true_or, Bool.false_or, Bool.or_true, Bool.or_false, Int.reduceEq, Int.reduceNe, Int.reduceLT, Int.reduceLE, Int.toNat_natCast, toNat_add1] at h6
        all_goals try (first | contradiction | (exfalso; omega))
        all_goals (
          refine runs_seq ?_
          refine runs_keep [6, 3, 2] rfl ?_
          refine any_start mixed rfl rfl ?_
          refine any_fl 0 rfl rfl rfl rfl (by kernel_rfl) rfl (fl_build ti31 rfl rfl rfl rfl rfl rfl rfl ⟨_, rfl, ?_⟩)
          first
          | refine any_fl 1 rfl rfl rfl rfl (by kernel_rfl) rfl (fl_load_blk ti33 rfl rfl rfl rfl rfl rfl rfl ⟨_, rfl, ?_⟩)
          | refine any_fl 1 rfl rfl rfl rfl (by kernel_rfl) rfl (fl_load_cp ti33 rfl rfl rfl rfl rfl rfl ⟨_, rfl, ?_⟩)
          | refine any_fl 1 rfl rfl rfl rfl (by kernel_rfl) rfl (fl_load_all ti33 rfl rfl rfl rfl (by first | rfl | exact Lvl.cells_len _) ⟨_, rfl, ?_⟩)
          refine any_st 2 rfl rfl (by kernel_rfl) rfl rfl (by intro p hp; simp only [List.mem_cons, List.not_mem_nil, or_false] at hp; all_goals (first | exact hp.elim | (subst hp; exact ⟨by simp, _, _, rfl⟩) | (rcases hp with rfl | rfl <;> exact ⟨by simp, _, _, rfl⟩) | (rcases hp with rfl | rfl | rfl <;> exact ⟨by simp, _, _, rfl⟩) | (rcases hp with rfl | rfl | rfl | rfl <;> exact ⟨by simp, _, _, rfl⟩) | (rcases hp with rfl | rfl | rfl | rfl | rfl <;> exact ⟨by simp, _, _, rfl⟩))) (op_store ti31 rfl rfl rfl rfl rfl rfl rfl rfl rfl rfl rfl ?_)
          refine any_st 3 rfl rfl (by kernel_rfl) rfl rfl (by intro p hp; simp only [List.mem_cons, List.not_mem_nil, or_false] at hp; all_goals (first | exact hp.elim | (subst hp; exact ⟨by simp, _, _, rfl⟩) | (rcases hp with rfl | rfl <;> exact ⟨by simp, _, _, rfl⟩) | (rcases hp with rfl | rfl | rfl <;> exact ⟨by simp, _, _, rfl⟩) | (rcases hp with rfl | rfl | rfl | rfl <;> exact ⟨by simp, _, _, rfl⟩) | (rcases hp with rfl | rfl | rfl | rfl | rfl <;> exact ⟨by simp, _, _, rfl⟩))) (op_store ti33 rfl rfl rfl rfl rfl rfl rfl rfl rfl rfl rfl ?_)
          refine any_end (by kernel_rfl) ?_
          refine seq_normal ?_
          refine runs_ret ?_
          refine seq_ret ?_
          refine fin_ret ?_
          refine fin_dl ⟨_, _, rfl, (from_cell rfl rfl ti31 rfl rfl rfl rfl), ⟨_, _, rfl, (from_cell rfl rfl ti33 rfl rfl rfl rfl), rfl⟩⟩ rfl (.tup [zeroL.d, .agg [.v (.int .i64 (fcode (doneR s (levelR (s.size + 1) s ⟨0, none⟩).2).f)), .v (.int .i64 (fat (doneR s (levelR (s.size + 1) s ⟨0, none⟩).2).f))]]) (by repeat' (first | exact DLe.refl _ | exact DLe.nil | exact DLeL.nil | exact DLeLL.nil | apply DLe.agg | apply DLe.tup | apply DLe.sl | apply DLe.cp | apply DLeL.cons | apply DLeLL.cons)) ?_
          rw [parseR_bad (by omega) h6]
        )
      · try simp only [decide_eq_true_eq, decide_eq_false_iff_not, Bool.not_eq_true', Bool.not_eq_false', Bool.not_true, Bool.not_false, Int.not_lt, Int.not_le, Bool.and_eq_true, Bool.or_eq_true, Bool.and_eq_false_iff, Bool.or_eq_false_iff, Bool.false_eq_true, Bool.true_eq_false, not_true_eq_false, not_false_eq_true, decide_true, decide_false, true_and, and_true, false_and, and_false, true_or, or_true, false_or, or_false, Bool.true_and, Bool.false_and, Bool.and_true, Bool.and_false, Bool.true_or, Bool.false_or, Bool.or_true, Bool.or_false, Int.reduceEq, Int.reduceNe, Int.reduceLT, Int.reduceLE, Int.toNat_natCast, toNat_add1] at h6
        all_goals try (first | contradiction | (exfalso; omega))
        all_goals (
          refine runs_skip ?_
          refine seq_normal ?_
          refine runs_seq ?_
          refine any_start mixed rfl rfl ?_
          first
          | refine any_fl 0 rfl rfl rfl rfl (by kernel_rfl) rfl (fl_load_blk ti31 rfl rfl rfl rfl rfl rfl rfl ⟨_, rfl, ?_⟩)
          | refine any_fl 0 rfl rfl rfl rfl (by kernel_rfl) rfl (fl_load_cp ti31 rfl rfl rfl rfl rfl rfl ⟨_, rfl, ?_⟩)
          | refine any_fl 0 rfl rfl rfl rfl (by kernel_rfl) rfl (fl_load_all ti31 rfl rfl rfl rfl (by first | rfl | exact Lvl.cells_len _) ⟨_, rfl, ?_⟩)
          first
          | refine any_fl 1 rfl rfl rfl rfl (by kernel_rfl) rfl (fl_load_blk ti33 rfl rfl rfl rfl rfl rfl rfl ⟨_, rfl, ?_⟩)
          | refine any_fl 1 rfl rfl rfl rfl (by kernel_rfl) rfl (fl_load_cp ti33 rfl rfl rfl rfl rfl rfl ⟨_, rfl, ?_⟩)
          | refine any_fl 1 rfl rfl rfl rfl (by kernel_rfl) rfl (fl_load_all ti33 rfl rfl rfl rfl (by first | rfl | exact Lvl.cells_len _) ⟨_, rfl, ?_⟩)
          refine any_st 2 rfl rfl (by kernel_rfl) rfl rfl (by intro p hp; simp only [List.mem_cons, List.not_mem_nil, or_false] at hp; all_goals (first | exact hp.elim | (subst hp; exact ⟨by simp, _, _, rfl⟩) | (rcases hp with rfl | rfl <;> exact ⟨by simp, _, _, rfl⟩) | (rcases hp with rfl | rfl | rfl <;> exact ⟨by simp, _, _, rfl⟩) | (rcases hp with rfl | rfl | rfl | rfl <;> exact ⟨by simp, _, _, rfl⟩) | (rcases hp with rfl | rfl | rfl | rfl | rfl <;> exact ⟨by simp, _, _, rfl⟩))) (op_store ti31 rfl rfl rfl rfl rfl rfl rfl rfl rfl rfl rfl ?_)
          refine any_st 3 rfl rfl (by kernel_rfl) rfl rfl (by intro p hp; simp only [List.mem_cons, List.not_mem_nil, or_false] at hp; all_goals (first | exact hp.elim | (subst hp; exact ⟨by simp, _, _, rfl⟩) | (rcases hp with rfl | rfl <;> exact ⟨by simp, _, _, rfl⟩) | (rcases hp with rfl | rfl | rfl <;> exact ⟨by simp, _, _, rfl⟩) | (rcases hp with rfl | rfl | rfl | rfl <;> exact ⟨by simp, _, _, rfl⟩) | (rcases hp with rfl | rfl | rfl | rfl | rfl <;> exact ⟨by simp, _, _, rfl⟩))) (op_store ti33 rfl rfl rfl rfl rfl rfl rfl rfl rfl rfl rfl ?_)
          refine any_end (by kernel_rfl) ?_
          refine seq_normal ?_
          refine runs_ret ?_
          refine fin_ret ?_
          refine fin_dl ⟨_, _, rfl, (from_cell rfl rfl ti31 rfl rfl rfl rfl), ⟨_, _, rfl, (from_cell rfl rfl ti33 rfl rfl rfl rfl), rfl⟩⟩ rfl (.tup [(Lvl.mk k1 s1 a1).d, .agg [.v (.int .i64 (fcode (doneR s (levelR (s.size + 1) s ⟨0, none⟩).2).f)), .v (.int .i64 (fat (doneR s (levelR (s.size + 1) s ⟨0, none⟩).2).f))]]) (by repeat' (first | exact DLe.refl _ | exact DLe.nil | exact DLeL.nil | exact DLeLL.nil | apply DLe.agg | apply DLe.tup | apply DLe.sl | apply DLe.cp | apply DLeL.cons | apply DLeLL.cons)) ?_
          rw [parseR_good (by omega) h6, hX]
        )
    )
end Go.Proofs.YtafhnnbbfgoacaaDoor
