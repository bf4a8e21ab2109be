/-
  What is proved here: contracts of the program's scanner: Step.
-/
import Derived.Test.YtafhnnbbfgoacaaDoorYS1
import Derived.Test.YtafhnnbbfgoacaaDoorYRead
set_option linter.unusedSimpArgs false
set_option linter.unusedVariables false
namespace Go.Proofs.YtafhnnbbfgoacaaDoor
open Go Go.Vd Go.RowKit
attribute [local irreducible] Runs OpsR OpR FloatR AnyR AnyO
variable {gl : Nat → List D}

def stepTok (s : ByteArray) (p : Nat) : ByteArray := if (tokR s p).2.2 = true then (tokR s p).1 else ⟨#[0]⟩
def stepAt (s : ByteArray) (p : Nat) : Nat := if (tokR s p).2.2 = true then (tokR s p).2.1 + (tokR s p).1.size else p
theorem step_yes {s : ByteArray} {p : Nat} {t : ByteArray} {i : Nat} (h : tokR s p = (t, i, true)) : stepTok s p = t ∧ stepAt s p = i + t.size ∧ (tokR s p).2.1 = i := by
  unfold stepTok stepAt; rw [h]; exact ⟨rfl, rfl, rfl⟩
theorem step_no {s : ByteArray} {p : Nat} {t : ByteArray} {i : Nat} (h : tokR s p = (t, i, false)) : stepTok s p = ⟨#[0]⟩ ∧ stepAt s p = p ∧ (tokR s p).2.1 = i := by
  unfold stepTok stepAt; rw [h]; exact ⟨rfl, rfl, rfl⟩

theorem nameB_mono {c : Int} (h : nameB c true = true) : nameB c false = true := by
  simp [nameB] at h ⊢
  omega

theorem step_spec (s : ByteArray) (hs : s.size ≤ 1099511627776) (p : Nat) (hp : p ≤ s.size) (tok0 : ByteArray) (pos0 : Nat) :
    Tri Tryd.prog gl 50 [scO s p tok0 pos0] [.blk 0 0] fun out ob' => out = .ret (.d (.tup [])) ∧ ob' = [scO s (stepAt s p) (stepTok s p) (tokR s p).2.1] := by
  obtain ⟨i, hi⟩ : ∃ i, spanB wsB s p = i := ⟨_, rfl⟩
  have hil := spanB_le wsB s p hp
  rw [hi] at hil
  have hba := byteAt_bound s i
  have hw := run_spec (gl := gl) 59 _ (.inr rfl) wsB ca59 (fun c _ _ => ws1_spec c) s hs p p tok0 pos0 hp
  rw [hi] at hw
  unfold scO at hw ⊢
  refine triS_of_runs Tryd.func50 rfl Tryd.ntmps50 (rs := []) rfl rfl rfl 1 rfl ?_
  refine runs_seq ?_
  refine runs_region ?_
  refine ops_fl rfl rfl rfl (fl_move rfl rfl ?_)
  refine ops_fl rfl rfl rfl (fl_move rfl rfl ?_)
  refine ops_fl rfl rfl rfl (fl_move rfl rfl ?_)
  first
  | refine ops_fl rfl rfl rfl (fl_nil_blk rfl rfl ?_)
  | refine ops_fl rfl rfl rfl (fl_nil_cp rfl rfl ?_)
  first
  | refine ops_fl rfl rfl rfl (fl_field_blk ti90 rfl rfl rfl rfl ?_)
  | refine ops_fl rfl rfl rfl (fl_field_cp ti90 rfl rfl rfl rfl rfl ?_)
  first
  | refine ops_fl rfl rfl rfl (fl_load_blk ti3 rfl rfl rfl rfl rfl rfl rfl ?_)
  | refine ops_fl rfl rfl rfl (fl_load_cp ti3 rfl rfl rfl rfl rfl rfl ?_)
  refine ops_cons rfl (op_callo ca58 rfl rfl rfl rfl (hw) [0] (.cons rfl (by first | exact .cells rfl (FitL.rfl _) | exact .row | exact .nrow | exact .mapI | exact .nnrow | (refine .cells rfl ?_; repeat (first | exact .nil | refine .cons (by first | exact .refl _ | exact .toD rfl | exact .nil rfl | exact .nilD) ?_))) .nil) rfl rfl rfl rfl (.cons (by first | exact .refl _ | exact .toD rfl | exact .nil rfl | exact .nilD | exact .dle rfl (by repeat' (first | exact DLe.refl _ | exact DLe.nil | exact DLeL.nil | exact DLeLL.nil | apply DLe.agg | apply DLe.tup | apply DLe.sl | apply DLe.cp | apply DLeL.cons | apply DLeLL.cons))) (.cons (by first | exact .refl _ | exact .toD rfl | exact .nil rfl | exact .nilD | exact .dle rfl (by repeat' (first | exact DLe.refl _ | exact DLe.nil | exact DLeL.nil | exact DLeLL.nil | apply DLe.agg | apply DLe.tup | apply DLe.sl | apply DLe.cp | apply DLeL.cons | apply DLeLL.cons))) (.cons (by first | exact .refl _ | exact .toD rfl | exact .nil rfl | exact .nilD | exact .dle rfl (by repeat' (first | exact DLe.refl _ | exact DLe.nil | exact DLeL.nil | exact DLeLL.nil | apply DLe.agg | apply DLe.tup | apply DLe.sl | apply DLe.cp | apply DLeL.cons | apply DLeLL.cons))) .nil))) (fun s ob' hq => ?_) (fun s ob' hq => ?_))
  rotate_left
  · first | exact hq.elim | cases hq.1
  obtain ⟨hq1, rfl⟩ := hq
  cases hq1
  refine ⟨_, _, _, _, _, rfl, rfl, rfl, rfl, rfl, ?_⟩
  first
  | refine ops_fl rfl rfl rfl (fl_nil_blk rfl rfl ?_)
  | refine ops_fl rfl rfl rfl (fl_nil_cp rfl rfl ?_)
  first
  | refine ops_fl rfl rfl rfl (fl_field_blk ti90 rfl rfl rfl rfl ?_)
  | refine ops_fl rfl rfl rfl (fl_field_cp ti90 rfl rfl rfl rfl rfl ?_)
  refine ops_cons rfl (op_store ti3 rfl rfl rfl rfl rfl rfl rfl rfl rfl rfl rfl ?_)
  refine ops_nil ?_
  refine seq_normal ?_
  refine runs_seq ?_
  refine runs_seq ?_
  refine runs_keep [0] rfl ?_
  refine any_start mixed rfl rfl ?_
  refine any_fl 0 rfl rfl rfl rfl (by kernel_rfl) rfl (fl_move rfl rfl ⟨_, rfl, ?_⟩)
  first
  | refine any_fl 1 rfl rfl rfl rfl (by kernel_rfl) rfl (fl_nil_blk rfl rfl ⟨_, rfl, ?_⟩)
  | refine any_fl 1 rfl rfl rfl rfl (by kernel_rfl) rfl (fl_nil_cp rfl rfl ⟨_, rfl, ?_⟩)
  first
  | refine any_fl 2 rfl rfl rfl rfl (by kernel_rfl) rfl (fl_field_blk ti90 rfl rfl rfl rfl ⟨_, rfl, ?_⟩)
  | refine any_fl 2 rfl rfl rfl rfl (by kernel_rfl) rfl (fl_field_cp ti90 rfl rfl rfl rfl rfl ⟨_, rfl, ?_⟩)
  first
  | refine any_fl 3 rfl rfl rfl rfl (by kernel_rfl) rfl (fl_load_blk ti3 rfl rfl rfl rfl rfl rfl rfl ⟨_, rfl, ?_⟩)
  | refine any_fl 3 rfl rfl rfl rfl (by kernel_rfl) rfl (fl_load_cp ti3 rfl rfl rfl rfl rfl rfl ⟨_, rfl, ?_⟩)
  refine any_fl 4 rfl rfl rfl rfl (by kernel_rfl) rfl (fl_move rfl rfl ⟨_, rfl, ?_⟩)
  first
  | refine any_fl 5 rfl rfl rfl rfl (by kernel_rfl) rfl (fl_nil_blk rfl rfl ⟨_, rfl, ?_⟩)
  | refine any_fl 5 rfl rfl rfl rfl (by kernel_rfl) rfl (fl_nil_cp rfl rfl ⟨_, rfl, ?_⟩)
  first
  | refine any_fl 6 rfl rfl rfl rfl (by kernel_rfl) rfl (fl_field_blk ti90 rfl rfl rfl rfl ⟨_, rfl, ?_⟩)
  | refine any_fl 6 rfl rfl rfl rfl (by kernel_rfl) rfl (fl_field_cp ti90 rfl rfl rfl rfl rfl ⟨_, rfl, ?_⟩)
  first
  | refine any_fl 7 rfl rfl rfl rfl (by kernel_rfl) rfl (fl_load_blk ti9 rfl rfl rfl rfl rfl rfl rfl ⟨_, rfl, ?_⟩)
  | refine any_fl 7 rfl rfl rfl rfl (by kernel_rfl) rfl (fl_load_cp ti9 rfl rfl rfl rfl rfl rfl ⟨_, rfl, ?_⟩)
  refine any_fl 8 rfl rfl rfl rfl (by kernel_rfl) rfl (fl_len_s ut9 rfl rfl ⟨_, rfl, ?_⟩)
  refine any_fl 9 rfl rfl rfl rfl (by kernel_rfl) rfl (fl_eql rfl rfl rfl ⟨_, rfl, ?_⟩)
  refine any_end (by kernel_rfl) ?_
  refine seq_normal ?_
  refine runs_cond rfl (fun h1 => ?_) (fun h1 => ?_)
  · try simp only [decide_eq_true_eq, decide_eq_false_iff_not, Bool.not_eq_true', Bool.not_eq_false', Bool.not_true, Bool.not_false, Int.not_lt, Int.not_le, Bool.and_eq_true, Bool.or_eq_true, Bool.and_eq_false_iff, Bool.or_eq_false_iff, Bool.false_eq_true, Bool.true_eq_false, not_true_eq_false, not_false_eq_true, decide_true, decide_false, true_and, and_true, false_and, and_false, true_or, or_true, false_or, or_false, Bool.true_and, Bool.false_and, Bool.and_true, Bool.and_false, Bool.true_or, Bool.false_or, Bool.or_true, Bool.or_false, Int.reduceEq, Int.reduceNe, Int.reduceLT, Int.reduceLE, Int.toNat_natCast, toNat_add1] at h1
    all_goals try (first | contradiction | (exfalso; omega))
    all_goals (
      refine runs_seq ?_
      refine runs_keep [0] rfl ?_
      refine runs_region ?_
      refine ops_fl rfl rfl rfl (fl_move rfl rfl ?_)
      refine ops_fl rfl rfl rfl (fl_move rfl rfl ?_)
      refine ops_fl rfl rfl rfl (fl_move rfl rfl ?_)
      first
      | refine ops_fl rfl rfl rfl (fl_nil_blk rfl rfl ?_)
      | refine ops_fl rfl rfl rfl (fl_nil_cp rfl rfl ?_)
      first
      | refine ops_fl rfl rfl rfl (fl_field_blk ti90 rfl rfl rfl rfl ?_)
      | refine ops_fl rfl rfl rfl (fl_field_cp ti90 rfl rfl rfl rfl rfl ?_)
      first
      | refine ops_fl rfl rfl rfl (fl_load_blk ti3 rfl rfl rfl rfl rfl rfl rfl ?_)
      | refine ops_fl rfl rfl rfl (fl_load_cp ti3 rfl rfl rfl rfl rfl rfl ?_)
      first
      | refine ops_fl rfl rfl rfl (fl_nil_blk rfl rfl ?_)
      | refine ops_fl rfl rfl rfl (fl_nil_cp rfl rfl ?_)
      first
      | refine ops_fl rfl rfl rfl (fl_field_blk ti90 rfl rfl rfl rfl ?_)
      | refine ops_fl rfl rfl rfl (fl_field_cp ti90 rfl rfl rfl rfl rfl ?_)
      refine ops_cons rfl (op_store ti9 rfl rfl rfl rfl rfl rfl rfl rfl rfl rfl rfl ?_)
      first
      | refine ops_fl rfl rfl rfl (fl_nil_blk rfl rfl ?_)
      | refine ops_fl rfl rfl rfl (fl_nil_cp rfl rfl ?_)
      first
      | refine ops_fl rfl rfl rfl (fl_field_blk ti90 rfl rfl rfl rfl ?_)
      | refine ops_fl rfl rfl rfl (fl_field_cp ti90 rfl rfl rfl rfl rfl ?_)
      refine ops_cons rfl (op_store ti3 rfl rfl rfl rfl rfl rfl rfl rfl rfl rfl rfl ?_)
      refine ops_nil ?_
      refine seq_normal ?_
      refine runs_ret ?_
      refine seq_ret ?_
      refine fin_ret ?_
      refine fin_od (l := []) rfl rfl ([0]) ([scO s i .empty i]) rfl rfl rfl ?_ ?_
      · repeat (first | exact .nil | refine .cons rfl (.cells rfl (FitL.rfl _)) ?_ | refine .cons rfl .row ?_ | refine .cons rfl .mapI ?_ | refine .cons rfl .nnrow ?_ | refine .cons rfl .nrow ?_ | refine .cons rfl .dead ?_ | refine .cons rfl (.cells rfl ?_) ?_ | refine .cons (by first | exact .refl _ | exact .toD rfl | exact .nilD) ?_)
      · have h := step_yes (tok_end (show spanB wsB s p = spanB wsB s i by rw [hi, spanB_end (by omega)]) (by omega))
        refine ⟨rfl, ?_⟩
        rw [h.1, h.2.1, h.2.2]; rfl
    )
  · try simp only [decide_eq_true_eq, decide_eq_false_iff_not, Bool.not_eq_true', Bool.not_eq_false', Bool.not_true, Bool.not_false, Int.not_lt, Int.not_le, Bool.and_eq_true, Bool.or_eq_true, Bool.and_eq_false_iff, Bool.or_eq_false_iff, Bool.false_eq_true, Bool.true_eq_false, not_true_eq_false, not_false_eq_true, decide_true, decide_false, true_and, and_true, false_and, and_false, true_or, or_true, false_or, or_false, Bool.true_and, Bool.false_and, Bool.and_true, Bool.and_false, Bool.true_or, Bool.false_or, Bool.or_true, Bool.or_false, Int.reduceEq, Int.reduceNe, Int.reduceLT, Int.reduceLE, Int.toNat_natCast, toNat_add1] at h1
    all_goals try (first | contradiction | (exfalso; omega))
    all_goals (
      refine runs_skip ?_
      refine seq_normal ?_
      refine runs_seq ?_
      refine runs_keep [0] rfl ?_
      refine runs_region ?_
      refine ops_fl rfl rfl rfl (fl_move rfl rfl ?_)
      first
      | refine ops_fl rfl rfl rfl (fl_nil_blk rfl rfl ?_)
      | refine ops_fl rfl rfl rfl (fl_nil_cp rfl rfl ?_)
      first
      | refine ops_fl rfl rfl rfl (fl_field_blk ti90 rfl rfl rfl rfl ?_)
      | refine ops_fl rfl rfl rfl (fl_field_cp ti90 rfl rfl rfl rfl rfl ?_)
      first
      | refine ops_fl rfl rfl rfl (fl_load_blk ti3 rfl rfl rfl rfl rfl rfl rfl ?_)
      | refine ops_fl rfl rfl rfl (fl_load_cp ti3 rfl rfl rfl rfl rfl rfl ?_)
      refine ops_fl rfl rfl rfl (fl_add rfl rfl rfl (by omega) ?_)
      refine ops_fl rfl rfl rfl (fl_assign rfl rfl ?_)
      refine ops_nil ?_
      refine seq_normal ?_
      refine runs_seq ?_
      refine runs_seq ?_
      refine runs_keep [2, 0] rfl ?_
      have hi1 : i + 1 ≤ s.size := by omega
      have hqd := spanB_le digB s (i + 1) hi1
      have hqe := spanB_le digB s i hil.2
      have hqn := spanB_le (nameB · false) s i hil.2
      refine any_start mixed rfl rfl ?_
      refine any_fl 0 rfl rfl rfl rfl (by kernel_rfl) rfl (fl_move rfl rfl ⟨_, rfl, ?_⟩)
      first
      | refine any_fl 1 rfl rfl rfl rfl (by kernel_rfl) rfl (fl_nil_blk rfl rfl ⟨_, rfl, ?_⟩)
      | refine any_fl 1 rfl rfl rfl rfl (by kernel_rfl) rfl (fl_nil_cp rfl rfl ⟨_, rfl, ?_⟩)
      first
      | refine any_fl 2 rfl rfl rfl rfl (by kernel_rfl) rfl (fl_field_blk ti90 rfl rfl rfl rfl ⟨_, rfl, ?_⟩)
      | refine any_fl 2 rfl rfl rfl rfl (by kernel_rfl) rfl (fl_field_cp ti90 rfl rfl rfl rfl rfl ⟨_, rfl, ?_⟩)
      first
      | refine any_fl 3 rfl rfl rfl rfl (by kernel_rfl) rfl (fl_load_blk ti9 rfl rfl rfl rfl rfl rfl rfl ⟨_, rfl, ?_⟩)
      | refine any_fl 3 rfl rfl rfl rfl (by kernel_rfl) rfl (fl_load_cp ti9 rfl rfl rfl rfl rfl rfl ⟨_, rfl, ?_⟩)
      refine any_fl 4 rfl rfl rfl rfl (by kernel_rfl) rfl (fl_move rfl rfl ⟨_, rfl, ?_⟩)
      first
      | refine any_fl 5 rfl rfl rfl rfl (by kernel_rfl) rfl (fl_nil_blk rfl rfl ⟨_, rfl, ?_⟩)
      | refine any_fl 5 rfl rfl rfl rfl (by kernel_rfl) rfl (fl_nil_cp rfl rfl ⟨_, rfl, ?_⟩)
      first
      | refine any_fl 6 rfl rfl rfl rfl (by kernel_rfl) rfl (fl_field_blk ti90 rfl rfl rfl rfl ⟨_, rfl, ?_⟩)
      | refine any_fl 6 rfl rfl rfl rfl (by kernel_rfl) rfl (fl_field_cp ti90 rfl rfl rfl rfl rfl ⟨_, rfl, ?_⟩)
      first
      | refine any_fl 7 rfl rfl rfl rfl (by kernel_rfl) rfl (fl_load_blk ti3 rfl rfl rfl rfl rfl rfl rfl ⟨_, rfl, ?_⟩)
      | refine any_fl 7 rfl rfl rfl rfl (by kernel_rfl) rfl (fl_load_cp ti3 rfl rfl rfl rfl rfl rfl ⟨_, rfl, ?_⟩)
      refine any_fl 8 rfl rfl rfl rfl (by kernel_rfl) rfl (fl_byte ut9 rfl rfl rfl (by omega) ⟨_, rfl, ?_⟩)
      refine any_fl 9 rfl rfl rfl rfl (by kernel_rfl) rfl (fl_assign rfl rfl ⟨_, rfl, ?_⟩)
      refine any_end (by kernel_rfl) ?_
      refine seq_normal ?_
      refine runs_block ?_
      refine runs_seq ?_
      refine runs_keep [3, 2, 0] rfl ?_
      refine runs_region ?_
      refine ops_fl rfl rfl rfl (fl_move rfl rfl ?_)
      refine ops_fl rfl rfl rfl (fl_eql rfl rfl rfl ?_)
      refine ops_fl rfl rfl rfl (fl_move rfl rfl ?_)
      apply ops_or (yt := 54) (d := 52) 2 rfl rfl rfl (.none rfl) rfl rfl
      case h1 =>
        intro hb4 hK
        have hc := hb4; try simp only [decide_eq_true_eq, decide_eq_false_iff_not, Bool.not_eq_true', Bool.not_eq_false', Bool.not_true, Bool.not_false, Int.not_lt, Int.not_le, Bool.and_eq_true, Bool.or_eq_true, Bool.and_eq_false_iff, Bool.or_eq_false_iff, Bool.false_eq_true, Bool.true_eq_false, not_true_eq_false, not_false_eq_true, decide_true, decide_false, true_and, and_true, false_and, and_false, true_or, or_true, false_or, or_false, Bool.true_and, Bool.false_and, Bool.and_true, Bool.and_false, Bool.true_or, Bool.false_or, Bool.or_true, Bool.or_false, Int.reduceEq, Int.reduceNe, Int.reduceLT, Int.reduceLE, Int.toNat_natCast, toNat_add1] at hc
        all_goals try (first | contradiction | (exfalso; omega))
        all_goals (
          refine ops_gyes rfl rfl rfl hb4 ?_
          refine ops_fl rfl rfl rfl (fl_move rfl rfl ?_)
          refine ops_gyes rfl rfl rfl hb4 ?_
          refine ops_fl rfl rfl rfl (fl_eql rfl rfl rfl ?_)
          exact hK [_, _] rfl rfl)
      case h2 =>
        intro hb4 hK
        refine ops_gno rfl rfl rfl hb4 rfl rfl ?_
        refine ops_gno rfl rfl rfl hb4 rfl rfl ?_
        exact hK [_, _] rfl
      refine ops_fl rfl rfl rfl (fl_assign rfl rfl ?_)
      refine ops_nil ?_
      refine seq_normal ?_
      refine runs_cond rfl (fun h6 => ?_) (fun h6 => ?_)
      · try simp only [decide_eq_true_eq, decide_eq_false_iff_not, Bool.not_eq_true', Bool.not_eq_false', Bool.not_true, Bool.not_false, Int.not_lt, Int.not_le, Bool.and_eq_true, Bool.or_eq_true, Bool.and_eq_false_iff, Bool.or_eq_false_iff, Bool.false_eq_true, Bool.true_eq_false, not_true_eq_false, not_false_eq_true, decide_true, decide_false, true_and, and_true, false_and, and_false, true_or, or_true, false_or, or_false, Bool.true_and, Bool.false_and, Bool.and_true, Bool.and_false, Bool.true_or, Bool.false_or, Bool.or_true, Bool.or_false, Int.reduceEq, Int.reduceNe, Int.reduceLT, Int.reduceLE, Int.toNat_natCast, toNat_add1] at h6
        all_goals try (first | contradiction | (exfalso; omega))
        all_goals (
          refine runs_skip ?_
          refine inb_normal ?_
          refine seq_normal ?_
          refine runs_seq ?_
          refine runs_seq ?_
          refine runs_keep [2, 0] rfl ?_
          refine runs_region ?_
          refine ops_fl rfl rfl rfl (fl_move rfl rfl ?_)
          refine ops_fl rfl rfl rfl (fl_lss rfl rfl rfl ?_)
          refine ops_nil ?_
          refine seq_normal ?_
          refine runs_cond rfl (fun h19 => ?_) (fun h19 => ?_)
          · try simp only [decide_eq_true_eq, decide_eq_false_iff_not, Bool.not_eq_true', Bool.not_eq_false', Bool.not_true, Bool.not_false, Int.not_lt, Int.not_le, Bool.and_eq_true, Bool.or_eq_true, Bool.and_eq_false_iff, Bool.or_eq_false_iff, Bool.false_eq_true, Bool.true_eq_false, not_true_eq_false, not_false_eq_true, decide_true, decide_false, true_and, and_true, false_and, and_false, true_or, or_true, false_or, or_false, Bool.true_and, Bool.false_and, Bool.and_true, Bool.and_false, Bool.true_or, Bool.false_or, Bool.or_true, Bool.or_false, Int.reduceEq, Int.reduceNe, Int.reduceLT, Int.reduceLE, Int.toNat_natCast, toNat_add1] at h19
            all_goals try (first | contradiction | (exfalso; omega))
            all_goals (
              refine runs_seq ?_
              refine runs_region ?_
              refine ops_fl rfl rfl rfl (fl_move rfl rfl ?_)
              first
              | refine ops_fl rfl rfl rfl (fl_nil_blk rfl rfl ?_)
              | refine ops_fl rfl rfl rfl (fl_nil_cp rfl rfl ?_)
              first
              | refine ops_fl rfl rfl rfl (fl_field_blk ti90 rfl rfl rfl rfl ?_)
              | refine ops_fl rfl rfl rfl (fl_field_cp ti90 rfl rfl rfl rfl rfl ?_)
              refine ops_cons rfl (op_store ti9 rfl rfl rfl rfl rfl rfl rfl rfl rfl rfl rfl ?_)
              refine ops_nil ?_
              refine seq_normal ?_
              refine runs_ret ?_
              refine seq_ret ?_
              refine fin_ret ?_
              refine fin_od (l := []) rfl rfl ([0]) ([scO s p ⟨#[0]⟩ i]) rfl rfl rfl ?_ ?_
              · repeat (first | exact .nil | refine .cons rfl (.cells rfl (FitL.rfl _)) ?_ | refine .cons rfl .row ?_ | refine .cons rfl .mapI ?_ | refine .cons rfl .nnrow ?_ | refine .cons rfl .nrow ?_ | refine .cons rfl .dead ?_ | refine .cons rfl (.cells rfl ?_) ?_ | refine .cons (by first | exact .refl _ | exact .toD rfl | exact .nilD) ?_)
              · exact ⟨rfl, rfl⟩
            )
          · try simp only [decide_eq_true_eq, decide_eq_false_iff_not, Bool.not_eq_true', Bool.not_eq_false', Bool.not_true, Bool.not_false, Int.not_lt, Int.not_le, Bool.and_eq_true, Bool.or_eq_true, Bool.and_eq_false_iff, Bool.or_eq_false_iff, Bool.false_eq_true, Bool.true_eq_false, not_true_eq_false, not_false_eq_true, decide_true, decide_false, true_and, and_true, false_and, and_false, true_or, or_true, false_or, or_false, Bool.true_and, Bool.false_and, Bool.and_true, Bool.and_false, Bool.true_or, Bool.false_or, Bool.or_true, Bool.or_false, Int.reduceEq, Int.reduceNe, Int.reduceLT, Int.reduceLE, Int.toNat_natCast, toNat_add1] at h19
            all_goals try (first | contradiction | (exfalso; omega))
            all_goals (
              refine runs_skip ?_
              refine seq_normal ?_
              refine any_start mixed rfl rfl ?_
              refine any_fl 0 rfl rfl rfl rfl (by kernel_rfl) rfl (fl_move rfl rfl ⟨_, rfl, ?_⟩)
              refine any_fl 1 rfl rfl rfl rfl (by kernel_rfl) rfl (fl_move rfl rfl ⟨_, rfl, ?_⟩)
              refine any_fl 2 rfl rfl rfl rfl (by kernel_rfl) rfl (fl_move rfl rfl ⟨_, rfl, ?_⟩)
              first
              | refine any_fl 3 rfl rfl rfl rfl (by kernel_rfl) rfl (fl_nil_blk rfl rfl ⟨_, rfl, ?_⟩)
              | refine any_fl 3 rfl rfl rfl rfl (by kernel_rfl) rfl (fl_nil_cp rfl rfl ⟨_, rfl, ?_⟩)
              first
              | refine any_fl 4 rfl rfl rfl rfl (by kernel_rfl) rfl (fl_field_blk ti90 rfl rfl rfl rfl ⟨_, rfl, ?_⟩)
              | refine any_fl 4 rfl rfl rfl rfl (by kernel_rfl) rfl (fl_field_cp ti90 rfl rfl rfl rfl rfl ⟨_, rfl, ?_⟩)
              first
              | refine any_fl 5 rfl rfl rfl rfl (by kernel_rfl) rfl (fl_load_blk ti9 rfl rfl rfl rfl rfl rfl rfl ⟨_, rfl, ?_⟩)
              | refine any_fl 5 rfl rfl rfl rfl (by kernel_rfl) rfl (fl_load_cp ti9 rfl rfl rfl rfl rfl rfl ⟨_, rfl, ?_⟩)
              refine any_fl 6 rfl rfl rfl rfl (by kernel_rfl) rfl (fl_move rfl rfl ⟨_, rfl, ?_⟩)
              first
              | refine any_fl 7 rfl rfl rfl rfl (by kernel_rfl) rfl (fl_nil_blk rfl rfl ⟨_, rfl, ?_⟩)
              | refine any_fl 7 rfl rfl rfl rfl (by kernel_rfl) rfl (fl_nil_cp rfl rfl ⟨_, rfl, ?_⟩)
              first
              | refine any_fl 8 rfl rfl rfl rfl (by kernel_rfl) rfl (fl_field_blk ti90 rfl rfl rfl rfl ⟨_, rfl, ?_⟩)
              | refine any_fl 8 rfl rfl rfl rfl (by kernel_rfl) rfl (fl_field_cp ti90 rfl rfl rfl rfl rfl ⟨_, rfl, ?_⟩)
              first
              | refine any_fl 9 rfl rfl rfl rfl (by kernel_rfl) rfl (fl_load_blk ti3 rfl rfl rfl rfl rfl rfl rfl ⟨_, rfl, ?_⟩)
              | refine any_fl 9 rfl rfl rfl rfl (by kernel_rfl) rfl (fl_load_cp ti3 rfl rfl rfl rfl rfl rfl ⟨_, rfl, ?_⟩)
              refine any_fl 10 rfl rfl rfl rfl (by kernel_rfl) rfl (fl_move rfl rfl ⟨_, rfl, ?_⟩)
              refine any_fl 11 rfl rfl rfl rfl (by kernel_rfl) rfl (fl_sub_lh ut9 rfl rfl rfl rfl (by omega) ⟨_, rfl, ?_⟩)
              refine any_fl 12 rfl rfl rfl rfl (by kernel_rfl) rfl (fl_move rfl rfl ⟨_, rfl, ?_⟩)
              first
              | refine any_fl 13 rfl rfl rfl rfl (by kernel_rfl) rfl (fl_nil_blk rfl rfl ⟨_, rfl, ?_⟩)
              | refine any_fl 13 rfl rfl rfl rfl (by kernel_rfl) rfl (fl_nil_cp rfl rfl ⟨_, rfl, ?_⟩)
              first
              | refine any_fl 14 rfl rfl rfl rfl (by kernel_rfl) rfl (fl_field_blk ti90 rfl rfl rfl rfl ⟨_, rfl, ?_⟩)
              | refine any_fl 14 rfl rfl rfl rfl (by kernel_rfl) rfl (fl_field_cp ti90 rfl rfl rfl rfl rfl ⟨_, rfl, ?_⟩)
              refine any_st 15 rfl rfl (by kernel_rfl) rfl rfl (by intro p hp; simp only [List.mem_cons, List.not_mem_nil, or_false] at hp; all_goals (first | exact hp.elim | (subst hp; exact ⟨by simp, _, _, rfl⟩) | (rcases hp with rfl | rfl <;> exact ⟨by simp, _, _, rfl⟩) | (rcases hp with rfl | rfl | rfl <;> exact ⟨by simp, _, _, rfl⟩) | (rcases hp with rfl | rfl | rfl | rfl <;> exact ⟨by simp, _, _, rfl⟩) | (rcases hp with rfl | rfl | rfl | rfl | rfl <;> exact ⟨by simp, _, _, rfl⟩))) (op_store ti9 rfl rfl rfl rfl rfl rfl rfl rfl rfl rfl rfl ?_)
              first
              | refine any_fl 16 rfl rfl rfl rfl (by kernel_rfl) rfl (fl_nil_blk rfl rfl ⟨_, rfl, ?_⟩)
              | refine any_fl 16 rfl rfl rfl rfl (by kernel_rfl) rfl (fl_nil_cp rfl rfl ⟨_, rfl, ?_⟩)
              first
              | refine any_fl 17 rfl rfl rfl rfl (by kernel_rfl) rfl (fl_field_blk ti90 rfl rfl rfl rfl ⟨_, rfl, ?_⟩)
              | refine any_fl 17 rfl rfl rfl rfl (by kernel_rfl) rfl (fl_field_cp ti90 rfl rfl rfl rfl rfl ⟨_, rfl, ?_⟩)
              refine any_st 18 rfl rfl (by kernel_rfl) rfl rfl (by intro p hp; simp only [List.mem_cons, List.not_mem_nil, or_false] at hp; all_goals (first | exact hp.elim | (subst hp; exact ⟨by simp, _, _, rfl⟩) | (rcases hp with rfl | rfl <;> exact ⟨by simp, _, _, rfl⟩) | (rcases hp with rfl | rfl | rfl <;> exact ⟨by simp, _, _, rfl⟩) | (rcases hp with rfl | rfl | rfl | rfl <;> exact ⟨by simp, _, _, rfl⟩) | (rcases hp with rfl | rfl | rfl | rfl | rfl <;> exact ⟨by simp, _, _, rfl⟩))) (op_store ti3 rfl rfl rfl rfl rfl rfl rfl rfl rfl rfl rfl ?_)
              refine any_end (by kernel_rfl) ?_
              refine fin_normal ?_
              refine fin_od (l := []) rfl rfl ([0]) ([scO s (i + 1) (s.extract i (i + 1)) i]) rfl rfl rfl ?_ ?_
              · repeat (first | exact .nil | refine .cons rfl (.cells rfl (FitL.rfl _)) ?_ | refine .cons rfl .row ?_ | refine .cons rfl .mapI ?_ | refine .cons rfl .nnrow ?_ | refine .cons rfl .nrow ?_ | refine .cons rfl .dead ?_ | refine .cons rfl (.cells rfl ?_) ?_ | refine .cons (by first | exact .refl _ | exact .toD rfl | exact .nilD) ?_)
              · have h := step_yes (tok_par hi hi1 h6)
                refine ⟨rfl, ?_⟩
                rw [h.1, h.2.1, h.2.2, show i + (s.extract i (i + 1)).size = (i + 1) by rw [ByteArray.size_extract]; omega]; rfl
            )
        )
      · try simp only [decide_eq_true_eq, decide_eq_false_iff_not, Bool.not_eq_true', Bool.not_eq_false', Bool.not_true, Bool.not_false, Int.not_lt, Int.not_le, Bool.and_eq_true, Bool.or_eq_true, Bool.and_eq_false_iff, Bool.or_eq_false_iff, Bool.false_eq_true, Bool.true_eq_false, not_true_eq_false, not_false_eq_true, decide_true, decide_false, true_and, and_true, false_and, and_false, true_or, or_true, false_or, or_false, Bool.true_and, Bool.false_and, Bool.and_true, Bool.and_false, Bool.true_or, Bool.false_or, Bool.or_true, Bool.or_false, Int.reduceEq, Int.reduceNe, Int.reduceLT, Int.reduceLE, Int.toNat_natCast, toNat_add1] at h6
        all_goals try (first | contradiction | (exfalso; omega))
        all_goals (
          refine runs_seq ?_
          refine runs_keep [3, 0] rfl ?_
          refine runs_region ?_
          refine ops_fl rfl rfl rfl (fl_move rfl rfl ?_)
          refine ops_cons (T := fun _ => False) rfl (op_call ca60 rfl rfl rfl rfl (letter_spec (byteAt s i) hba.1 hba.2) (.cons (by first | exact .refl _ | exact .toD rfl | exact .nilD | exact .dle rfl (by repeat' (first | exact DLe.refl _ | exact DLe.nil | exact DLeL.nil | exact DLeLL.nil | apply DLe.agg | apply DLe.tup | apply DLe.sl | apply DLe.cp | apply DLeL.cons | apply DLeLL.cons))) .nil) (fun d hd => ?_))
          obtain rfl := hd
          refine ops_fl rfl rfl rfl (fl_assign rfl rfl ?_)
          refine ops_nil ?_
          refine seq_normal ?_
          refine runs_cond rfl (fun h7 => ?_) (fun h7 => ?_)
          · try simp only [decide_eq_true_eq, decide_eq_false_iff_not, Bool.not_eq_true', Bool.not_eq_false', Bool.not_true, Bool.not_false, Int.not_lt, Int.not_le, Bool.and_eq_true, Bool.or_eq_true, Bool.and_eq_false_iff, Bool.or_eq_false_iff, Bool.false_eq_true, Bool.true_eq_false, not_true_eq_false, not_false_eq_true, decide_true, decide_false, true_and, and_true, false_and, and_false, true_or, or_true, false_or, or_false, Bool.true_and, Bool.false_and, Bool.and_true, Bool.and_false, Bool.true_or, Bool.false_or, Bool.or_true, Bool.or_false, Int.reduceEq, Int.reduceNe, Int.reduceLT, Int.reduceLE, Int.toNat_natCast, toNat_add1] at h7
            all_goals try (first | contradiction | (exfalso; omega))
            all_goals (
              refine runs_seq ?_
              refine runs_keep [0] rfl ?_
              refine runs_region ?_
              refine ops_fl rfl rfl rfl (fl_move rfl rfl ?_)
              refine ops_fl rfl rfl rfl (fl_move rfl rfl ?_)
              first
              | refine ops_fl rfl rfl rfl (fl_nil_blk rfl rfl ?_)
              | refine ops_fl rfl rfl rfl (fl_nil_cp rfl rfl ?_)
              first
              | refine ops_fl rfl rfl rfl (fl_field_blk ti90 rfl rfl rfl rfl ?_)
              | refine ops_fl rfl rfl rfl (fl_field_cp ti90 rfl rfl rfl rfl rfl ?_)
              first
              | refine ops_fl rfl rfl rfl (fl_load_blk ti3 rfl rfl rfl rfl rfl rfl rfl ?_)
              | refine ops_fl rfl rfl rfl (fl_load_cp ti3 rfl rfl rfl rfl rfl rfl ?_)
              refine ops_cons rfl (op_callo ca58 rfl rfl rfl rfl (run_spec 61 _ (.inr rfl) (nameB · false) ca61 (fun c h0 h1 => nb2_spec c h0 h1) s hs i p tok0 i hil.2) [0] (.cons rfl (by first | exact .cells rfl (FitL.rfl _) | exact .row | exact .nrow | exact .mapI | exact .nnrow | (refine .cells rfl ?_; repeat (first | exact .nil | refine .cons (by first | exact .refl _ | exact .toD rfl | exact .nil rfl | exact .nilD) ?_))) .nil) rfl rfl rfl rfl (.cons (by first | exact .refl _ | exact .toD rfl | exact .nil rfl | exact .nilD | exact .dle rfl (by repeat' (first | exact DLe.refl _ | exact DLe.nil | exact DLeL.nil | exact DLeLL.nil | apply DLe.agg | apply DLe.tup | apply DLe.sl | apply DLe.cp | apply DLeL.cons | apply DLeLL.cons))) (.cons (by first | exact .refl _ | exact .toD rfl | exact .nil rfl | exact .nilD | exact .dle rfl (by repeat' (first | exact DLe.refl _ | exact DLe.nil | exact DLeL.nil | exact DLeLL.nil | apply DLe.agg | apply DLe.tup | apply DLe.sl | apply DLe.cp | apply DLeL.cons | apply DLeLL.cons))) (.cons (by first | exact .refl _ | exact .toD rfl | exact .nil rfl | exact .nilD | exact .dle rfl (by repeat' (first | exact DLe.refl _ | exact DLe.nil | exact DLeL.nil | exact DLeLL.nil | apply DLe.agg | apply DLe.tup | apply DLe.sl | apply DLe.cp | apply DLeL.cons | apply DLeLL.cons))) .nil))) (fun s ob' hq => ?_) (fun s ob' hq => ?_))
              rotate_left
              · first | exact hq.elim | cases hq.1
              obtain ⟨hq1, rfl⟩ := hq
              cases hq1
              refine ⟨_, _, _, _, _, rfl, rfl, rfl, rfl, rfl, ?_⟩
              refine ops_fl rfl rfl rfl (fl_assign rfl rfl ?_)
              refine ops_nil ?_
              refine seq_normal ?_
              refine runs_seq ?_
              refine runs_keep [2, 0] rfl ?_
              refine runs_region ?_
              refine ops_fl rfl rfl rfl (fl_move rfl rfl ?_)
              refine ops_fl rfl rfl rfl (fl_move rfl rfl ?_)
              first
              | refine ops_fl rfl rfl rfl (fl_nil_blk rfl rfl ?_)
              | refine ops_fl rfl rfl rfl (fl_nil_cp rfl rfl ?_)
              first
              | refine ops_fl rfl rfl rfl (fl_field_blk ti90 rfl rfl rfl rfl ?_)
              | refine ops_fl rfl rfl rfl (fl_field_cp ti90 rfl rfl rfl rfl rfl ?_)
              first
              | refine ops_fl rfl rfl rfl (fl_load_blk ti3 rfl rfl rfl rfl rfl rfl rfl ?_)
              | refine ops_fl rfl rfl rfl (fl_load_cp ti3 rfl rfl rfl rfl rfl rfl ?_)
              refine ops_fl rfl rfl rfl (fl_sub rfl rfl rfl (by omega) ?_)
              refine ops_fl rfl rfl rfl (fl_gtr rfl rfl rfl ?_)
              refine ops_nil ?_
              refine seq_normal ?_
              refine runs_cond rfl (fun h9 => ?_) (fun h9 => ?_)
              · try simp only [decide_eq_true_eq, decide_eq_false_iff_not, Bool.not_eq_true', Bool.not_eq_false', Bool.not_true, Bool.not_false, Int.not_lt, Int.not_le, Bool.and_eq_true, Bool.or_eq_true, Bool.and_eq_false_iff, Bool.or_eq_false_iff, Bool.false_eq_true, Bool.true_eq_false, not_true_eq_false, not_false_eq_true, decide_true, decide_false, true_and, and_true, false_and, and_false, true_or, or_true, false_or, or_false, Bool.true_and, Bool.false_and, Bool.and_true, Bool.and_false, Bool.true_or, Bool.false_or, Bool.or_true, Bool.or_false, Int.reduceEq, Int.reduceNe, Int.reduceLT, Int.reduceLE, Int.toNat_natCast, toNat_add1] at h9
                all_goals try (first | contradiction | (exfalso; omega))
                all_goals (
                  refine runs_keep [0] rfl ?_
                  refine runs_region ?_
                  refine ops_fl rfl rfl rfl (fl_assign rfl rfl ?_)
                  refine ops_nil ?_
                  refine inb_normal ?_
                  refine seq_normal ?_
                  refine runs_seq ?_
                  refine runs_seq ?_
                  refine runs_region ?_
                  refine ops_fl rfl rfl rfl (fl_move rfl rfl ?_)
                  refine ops_fl rfl rfl rfl (fl_lss rfl rfl rfl ?_)
                  refine ops_nil ?_
                  refine seq_normal ?_
                  refine runs_cond rfl (fun h19 => ?_) (fun h19 => ?_)
                  · try simp only [decide_eq_true_eq, decide_eq_false_iff_not, Bool.not_eq_true', Bool.not_eq_false', Bool.not_true, Bool.not_false, Int.not_lt, Int.not_le, Bool.and_eq_true, Bool.or_eq_true, Bool.and_eq_false_iff, Bool.or_eq_false_iff, Bool.false_eq_true, Bool.true_eq_false, not_true_eq_false, not_false_eq_true, decide_true, decide_false, true_and, and_true, false_and, and_false, true_or, or_true, false_or, or_false, Bool.true_and, Bool.false_and, Bool.and_true, Bool.and_false, Bool.true_or, Bool.false_or, Bool.or_true, Bool.or_false, Int.reduceEq, Int.reduceNe, Int.reduceLT, Int.reduceLE, Int.toNat_natCast, toNat_add1] at h19
                    all_goals try (first | contradiction | (exfalso; omega))
                    all_goals (
                      refine runs_seq ?_
                      refine runs_region ?_
                      refine ops_fl rfl rfl rfl (fl_move rfl rfl ?_)
                      first
                      | refine ops_fl rfl rfl rfl (fl_nil_blk rfl rfl ?_)
                      | refine ops_fl rfl rfl rfl (fl_nil_cp rfl rfl ?_)
                      first
                      | refine ops_fl rfl rfl rfl (fl_field_blk ti90 rfl rfl rfl rfl ?_)
                      | refine ops_fl rfl rfl rfl (fl_field_cp ti90 rfl rfl rfl rfl rfl ?_)
                      refine ops_cons rfl (op_store ti9 rfl rfl rfl rfl rfl rfl rfl rfl rfl rfl rfl ?_)
                      refine ops_nil ?_
                      refine seq_normal ?_
                      refine runs_ret ?_
                      refine seq_ret ?_
                      refine fin_ret ?_
                      refine fin_od (l := []) rfl rfl ([0]) ([scO s p ⟨#[0]⟩ i]) rfl rfl rfl ?_ ?_
                      · repeat (first | exact .nil | refine .cons rfl (.cells rfl (FitL.rfl _)) ?_ | refine .cons rfl .row ?_ | refine .cons rfl .mapI ?_ | refine .cons rfl .nnrow ?_ | refine .cons rfl .nrow ?_ | refine .cons rfl .dead ?_ | refine .cons rfl (.cells rfl ?_) ?_ | refine .cons (by first | exact .refl _ | exact .toD rfl | exact .nilD) ?_)
                      · have h := step_no (tok_nameNo hi hi1 (by omega) h7 (spanB_step hi1 (nameB_mono h7)).symm (by omega))
                        refine ⟨rfl, ?_⟩
                        rw [h.1, h.2.1, h.2.2]; rfl
                    )
                  · try simp only [decide_eq_true_eq, decide_eq_false_iff_not, Bool.not_eq_true', Bool.not_eq_false', Bool.not_true, Bool.not_false, Int.not_lt, Int.not_le, Bool.and_eq_true, Bool.or_eq_true, Bool.and_eq_false_iff, Bool.or_eq_false_iff, Bool.false_eq_true, Bool.true_eq_false, not_true_eq_false, not_false_eq_true, decide_true, decide_false, true_and, and_true, false_and, and_false, true_or, or_true, false_or, or_false, Bool.true_and, Bool.false_and, Bool.and_true, Bool.and_false, Bool.true_or, Bool.false_or, Bool.or_true, Bool.or_false, Int.reduceEq, Int.reduceNe, Int.reduceLT, Int.reduceLE, Int.toNat_natCast, toNat_add1] at h19
                    all_goals try (first | contradiction | (exfalso; omega))
                    all_goals (
                      refine runs_skip ?_
                      refine seq_normal ?_
                      refine any_start mixed rfl rfl ?_
                      refine any_fl 0 rfl rfl rfl rfl (by kernel_rfl) rfl (fl_move rfl rfl ⟨_, rfl, ?_⟩)
                      refine any_fl 1 rfl rfl rfl rfl (by kernel_rfl) rfl (fl_move rfl rfl ⟨_, rfl, ?_⟩)
                      refine any_fl 2 rfl rfl rfl rfl (by kernel_rfl) rfl (fl_move rfl rfl ⟨_, rfl, ?_⟩)
                      first
                      | refine any_fl 3 rfl rfl rfl rfl (by kernel_rfl) rfl (fl_nil_blk rfl rfl ⟨_, rfl, ?_⟩)
                      | refine any_fl 3 rfl rfl rfl rfl (by kernel_rfl) rfl (fl_nil_cp rfl rfl ⟨_, rfl, ?_⟩)
                      first
                      | refine any_fl 4 rfl rfl rfl rfl (by kernel_rfl) rfl (fl_field_blk ti90 rfl rfl rfl rfl ⟨_, rfl, ?_⟩)
                      | refine any_fl 4 rfl rfl rfl rfl (by kernel_rfl) rfl (fl_field_cp ti90 rfl rfl rfl rfl rfl ⟨_, rfl, ?_⟩)
                      first
                      | refine any_fl 5 rfl rfl rfl rfl (by kernel_rfl) rfl (fl_load_blk ti9 rfl rfl rfl rfl rfl rfl rfl ⟨_, rfl, ?_⟩)
                      | refine any_fl 5 rfl rfl rfl rfl (by kernel_rfl) rfl (fl_load_cp ti9 rfl rfl rfl rfl rfl rfl ⟨_, rfl, ?_⟩)
                      refine any_fl 6 rfl rfl rfl rfl (by kernel_rfl) rfl (fl_move rfl rfl ⟨_, rfl, ?_⟩)
                      first
                      | refine any_fl 7 rfl rfl rfl rfl (by kernel_rfl) rfl (fl_nil_blk rfl rfl ⟨_, rfl, ?_⟩)
                      | refine any_fl 7 rfl rfl rfl rfl (by kernel_rfl) rfl (fl_nil_cp rfl rfl ⟨_, rfl, ?_⟩)
                      first
                      | refine any_fl 8 rfl rfl rfl rfl (by kernel_rfl) rfl (fl_field_blk ti90 rfl rfl rfl rfl ⟨_, rfl, ?_⟩)
                      | refine any_fl 8 rfl rfl rfl rfl (by kernel_rfl) rfl (fl_field_cp ti90 rfl rfl rfl rfl rfl ⟨_, rfl, ?_⟩)
                      first
                      | refine any_fl 9 rfl rfl rfl rfl (by kernel_rfl) rfl (fl_load_blk ti3 rfl rfl rfl rfl rfl rfl rfl ⟨_, rfl, ?_⟩)
                      | refine any_fl 9 rfl rfl rfl rfl (by kernel_rfl) rfl (fl_load_cp ti3 rfl rfl rfl rfl rfl rfl ⟨_, rfl, ?_⟩)
                      refine any_fl 10 rfl rfl rfl rfl (by kernel_rfl) rfl (fl_move rfl rfl ⟨_, rfl, ?_⟩)
                      refine any_fl 11 rfl rfl rfl rfl (by kernel_rfl) rfl (fl_sub_lh ut9 rfl rfl rfl rfl (by omega) ⟨_, rfl, ?_⟩)
                      refine any_fl 12 rfl rfl rfl rfl (by kernel_rfl) rfl (fl_move rfl rfl ⟨_, rfl, ?_⟩)
                      first
                      | refine any_fl 13 rfl rfl rfl rfl (by kernel_rfl) rfl (fl_nil_blk rfl rfl ⟨_, rfl, ?_⟩)
                      | refine any_fl 13 rfl rfl rfl rfl (by kernel_rfl) rfl (fl_nil_cp rfl rfl ⟨_, rfl, ?_⟩)
                      first
                      | refine any_fl 14 rfl rfl rfl rfl (by kernel_rfl) rfl (fl_field_blk ti90 rfl rfl rfl rfl ⟨_, rfl, ?_⟩)
                      | refine any_fl 14 rfl rfl rfl rfl (by kernel_rfl) rfl (fl_field_cp ti90 rfl rfl rfl rfl rfl ⟨_, rfl, ?_⟩)
                      refine any_st 15 rfl rfl (by kernel_rfl) rfl rfl (by intro p hp; simp only [List.mem_cons, List.not_mem_nil, or_false] at hp; all_goals (first | exact hp.elim | (subst hp; exact ⟨by simp, _, _, rfl⟩) | (rcases hp with rfl | rfl <;> exact ⟨by simp, _, _, rfl⟩) | (rcases hp with rfl | rfl | rfl <;> exact ⟨by simp, _, _, rfl⟩) | (rcases hp with rfl | rfl | rfl | rfl <;> exact ⟨by simp, _, _, rfl⟩) | (rcases hp with rfl | rfl | rfl | rfl | rfl <;> exact ⟨by simp, _, _, rfl⟩))) (op_store ti9 rfl rfl rfl rfl rfl rfl rfl rfl rfl rfl rfl ?_)
                      first
                      | refine any_fl 16 rfl rfl rfl rfl (by kernel_rfl) rfl (fl_nil_blk rfl rfl ⟨_, rfl, ?_⟩)
                      | refine any_fl 16 rfl rfl rfl rfl (by kernel_rfl) rfl (fl_nil_cp rfl rfl ⟨_, rfl, ?_⟩)
                      first
                      | refine any_fl 17 rfl rfl rfl rfl (by kernel_rfl) rfl (fl_field_blk ti90 rfl rfl rfl rfl ⟨_, rfl, ?_⟩)
                      | refine any_fl 17 rfl rfl rfl rfl (by kernel_rfl) rfl (fl_field_cp ti90 rfl rfl rfl rfl rfl ⟨_, rfl, ?_⟩)
                      refine any_st 18 rfl rfl (by kernel_rfl) rfl rfl (by intro p hp; simp only [List.mem_cons, List.not_mem_nil, or_false] at hp; all_goals (first | exact hp.elim | (subst hp; exact ⟨by simp, _, _, rfl⟩) | (rcases hp with rfl | rfl <;> exact ⟨by simp, _, _, rfl⟩) | (rcases hp with rfl | rfl | rfl <;> exact ⟨by simp, _, _, rfl⟩) | (rcases hp with rfl | rfl | rfl | rfl <;> exact ⟨by simp, _, _, rfl⟩) | (rcases hp with rfl | rfl | rfl | rfl | rfl <;> exact ⟨by simp, _, _, rfl⟩))) (op_store ti3 rfl rfl rfl rfl rfl rfl rfl rfl rfl rfl rfl ?_)
                      refine any_end (by kernel_rfl) ?_
                      refine fin_normal ?_
                      refine fin_od (l := []) rfl rfl ([0]) ([scO s (i + 1) (s.extract i (i + 1)) i]) rfl rfl rfl ?_ ?_
                      · repeat (first | exact .nil | refine .cons rfl (.cells rfl (FitL.rfl _)) ?_ | refine .cons rfl .row ?_ | refine .cons rfl .mapI ?_ | refine .cons rfl .nnrow ?_ | refine .cons rfl .nrow ?_ | refine .cons rfl .dead ?_ | refine .cons rfl (.cells rfl ?_) ?_ | refine .cons (by first | exact .refl _ | exact .toD rfl | exact .nilD) ?_)
                      · exact ⟨rfl, rfl⟩
                    )
                )
              · try simp only [decide_eq_true_eq, decide_eq_false_iff_not, Bool.not_eq_true', Bool.not_eq_false', Bool.not_true, Bool.not_false, Int.not_lt, Int.not_le, Bool.and_eq_true, Bool.or_eq_true, Bool.and_eq_false_iff, Bool.or_eq_false_iff, Bool.false_eq_true, Bool.true_eq_false, not_true_eq_false, not_false_eq_true, decide_true, decide_false, true_and, and_true, false_and, and_false, true_or, or_true, false_or, or_false, Bool.true_and, Bool.false_and, Bool.and_true, Bool.and_false, Bool.true_or, Bool.false_or, Bool.or_true, Bool.or_false, Int.reduceEq, Int.reduceNe, Int.reduceLT, Int.reduceLE, Int.toNat_natCast, toNat_add1] at h9
                all_goals try (first | contradiction | (exfalso; omega))
                all_goals (
                  refine runs_skip ?_
                  refine inb_normal ?_
                  refine seq_normal ?_
                  refine runs_seq ?_
                  refine runs_seq ?_
                  refine runs_keep [2, 0] rfl ?_
                  refine runs_region ?_
                  refine ops_fl rfl rfl rfl (fl_move rfl rfl ?_)
                  refine ops_fl rfl rfl rfl (fl_lss rfl rfl rfl ?_)
                  refine ops_nil ?_
                  refine seq_normal ?_
                  refine runs_cond rfl (fun h19 => ?_) (fun h19 => ?_)
                  · try simp only [decide_eq_true_eq, decide_eq_false_iff_not, Bool.not_eq_true', Bool.not_eq_false', Bool.not_true, Bool.not_false, Int.not_lt, Int.not_le, Bool.and_eq_true, Bool.or_eq_true, Bool.and_eq_false_iff, Bool.or_eq_false_iff, Bool.false_eq_true, Bool.true_eq_false, not_true_eq_false, not_false_eq_true, decide_true, decide_false, true_and, and_true, false_and, and_false, true_or, or_true, false_or, or_false, Bool.true_and, Bool.false_and, Bool.and_true, Bool.and_false, Bool.true_or, Bool.false_or, Bool.or_true, Bool.or_false, Int.reduceEq, Int.reduceNe, Int.reduceLT, Int.reduceLE, Int.toNat_natCast, toNat_add1] at h19
                    all_goals try (first | contradiction | (exfalso; omega))
                    all_goals (
                      refine runs_seq ?_
                      refine runs_region ?_
                      refine ops_fl rfl rfl rfl (fl_move rfl rfl ?_)
                      first
                      | refine ops_fl rfl rfl rfl (fl_nil_blk rfl rfl ?_)
                      | refine ops_fl rfl rfl rfl (fl_nil_cp rfl rfl ?_)
                      first
                      | refine ops_fl rfl rfl rfl (fl_field_blk ti90 rfl rfl rfl rfl ?_)
                      | refine ops_fl rfl rfl rfl (fl_field_cp ti90 rfl rfl rfl rfl rfl ?_)
                      refine ops_cons rfl (op_store ti9 rfl rfl rfl rfl rfl rfl rfl rfl rfl rfl rfl ?_)
                      refine ops_nil ?_
                      refine seq_normal ?_
                      refine runs_ret ?_
                      refine seq_ret ?_
                      refine fin_ret ?_
                      refine fin_od (l := []) rfl rfl ([0]) ([scO s p ⟨#[0]⟩ i]) rfl rfl rfl ?_ ?_
                      · repeat (first | exact .nil | refine .cons rfl (.cells rfl (FitL.rfl _)) ?_ | refine .cons rfl .row ?_ | refine .cons rfl .mapI ?_ | refine .cons rfl .nnrow ?_ | refine .cons rfl .nrow ?_ | refine .cons rfl .dead ?_ | refine .cons rfl (.cells rfl ?_) ?_ | refine .cons (by first | exact .refl _ | exact .toD rfl | exact .nilD) ?_)
                      · exact ⟨rfl, rfl⟩
                    )
                  · try simp only [decide_eq_true_eq, decide_eq_false_iff_not, Bool.not_eq_true', Bool.not_eq_false', Bool.not_true, Bool.not_false, Int.not_lt, Int.not_le, Bool.and_eq_true, Bool.or_eq_true, Bool.and_eq_false_iff, Bool.or_eq_false_iff, Bool.false_eq_true, Bool.true_eq_false, not_true_eq_false, not_false_eq_true, decide_true, decide_false, true_and, and_true, false_and, and_false, true_or, or_true, false_or, or_false, Bool.true_and, Bool.false_and, Bool.and_true, Bool.and_false, Bool.true_or, Bool.false_or, Bool.or_true, Bool.or_false, Int.reduceEq, Int.reduceNe, Int.reduceLT, Int.reduceLE, Int.toNat_natCast, toNat_add1] at h19
                    all_goals try (first | contradiction | (exfalso; omega))
                    all_goals (
                      refine runs_skip ?_
                      refine seq_normal ?_
                      refine any_start mixed rfl rfl ?_
                      refine any_fl 0 rfl rfl rfl rfl (by kernel_rfl) rfl (fl_move rfl rfl ⟨_, rfl, ?_⟩)
                      refine any_fl 1 rfl rfl rfl rfl (by kernel_rfl) rfl (fl_move rfl rfl ⟨_, rfl, ?_⟩)
                      refine any_fl 2 rfl rfl rfl rfl (by kernel_rfl) rfl (fl_move rfl rfl ⟨_, rfl, ?_⟩)
                      first
                      | refine any_fl 3 rfl rfl rfl rfl (by kernel_rfl) rfl (fl_nil_blk rfl rfl ⟨_, rfl, ?_⟩)
                      | refine any_fl 3 rfl rfl rfl rfl (by kernel_rfl) rfl (fl_nil_cp rfl rfl ⟨_, rfl, ?_⟩)
                      first
                      | refine any_fl 4 rfl rfl rfl rfl (by kernel_rfl) rfl (fl_field_blk ti90 rfl rfl rfl rfl ⟨_, rfl, ?_⟩)
                      | refine any_fl 4 rfl rfl rfl rfl (by kernel_rfl) rfl (fl_field_cp ti90 rfl rfl rfl rfl rfl ⟨_, rfl, ?_⟩)
                      first
                      | refine any_fl 5 rfl rfl rfl rfl (by kernel_rfl) rfl (fl_load_blk ti9 rfl rfl rfl rfl rfl rfl rfl ⟨_, rfl, ?_⟩)
                      | refine any_fl 5 rfl rfl rfl rfl (by kernel_rfl) rfl (fl_load_cp ti9 rfl rfl rfl rfl rfl rfl ⟨_, rfl, ?_⟩)
                      refine any_fl 6 rfl rfl rfl rfl (by kernel_rfl) rfl (fl_move rfl rfl ⟨_, rfl, ?_⟩)
                      first
                      | refine any_fl 7 rfl rfl rfl rfl (by kernel_rfl) rfl (fl_nil_blk rfl rfl ⟨_, rfl, ?_⟩)
                      | refine any_fl 7 rfl rfl rfl rfl (by kernel_rfl) rfl (fl_nil_cp rfl rfl ⟨_, rfl, ?_⟩)
                      first
                      | refine any_fl 8 rfl rfl rfl rfl (by kernel_rfl) rfl (fl_field_blk ti90 rfl rfl rfl rfl ⟨_, rfl, ?_⟩)
                      | refine any_fl 8 rfl rfl rfl rfl (by kernel_rfl) rfl (fl_field_cp ti90 rfl rfl rfl rfl rfl ⟨_, rfl, ?_⟩)
                      first
                      | refine any_fl 9 rfl rfl rfl rfl (by kernel_rfl) rfl (fl_load_blk ti3 rfl rfl rfl rfl rfl rfl rfl ⟨_, rfl, ?_⟩)
                      | refine any_fl 9 rfl rfl rfl rfl (by kernel_rfl) rfl (fl_load_cp ti3 rfl rfl rfl rfl rfl rfl ⟨_, rfl, ?_⟩)
                      refine any_fl 10 rfl rfl rfl rfl (by kernel_rfl) rfl (fl_move rfl rfl ⟨_, rfl, ?_⟩)
                      refine any_fl 11 rfl rfl rfl rfl (by kernel_rfl) rfl (fl_sub_lh ut9 rfl rfl rfl rfl (by omega) ⟨_, rfl, ?_⟩)
                      refine any_fl 12 rfl rfl rfl rfl (by kernel_rfl) rfl (fl_move rfl rfl ⟨_, rfl, ?_⟩)
                      first
                      | refine any_fl 13 rfl rfl rfl rfl (by kernel_rfl) rfl (fl_nil_blk rfl rfl ⟨_, rfl, ?_⟩)
                      | refine any_fl 13 rfl rfl rfl rfl (by kernel_rfl) rfl (fl_nil_cp rfl rfl ⟨_, rfl, ?_⟩)
                      first
                      | refine any_fl 14 rfl rfl rfl rfl (by kernel_rfl) rfl (fl_field_blk ti90 rfl rfl rfl rfl ⟨_, rfl, ?_⟩)
                      | refine any_fl 14 rfl rfl rfl rfl (by kernel_rfl) rfl (fl_field_cp ti90 rfl rfl rfl rfl rfl ⟨_, rfl, ?_⟩)
                      refine any_st 15 rfl rfl (by kernel_rfl) rfl rfl (by intro p hp; simp only [List.mem_cons, List.not_mem_nil, or_false] at hp; all_goals (first | exact hp.elim | (subst hp; exact ⟨by simp, _, _, rfl⟩) | (rcases hp with rfl | rfl <;> exact ⟨by simp, _, _, rfl⟩) | (rcases hp with rfl | rfl | rfl <;> exact ⟨by simp, _, _, rfl⟩) | (rcases hp with rfl | rfl | rfl | rfl <;> exact ⟨by simp, _, _, rfl⟩) | (rcases hp with rfl | rfl | rfl | rfl | rfl <;> exact ⟨by simp, _, _, rfl⟩))) (op_store ti9 rfl rfl rfl rfl rfl rfl rfl rfl rfl rfl rfl ?_)
                      first
                      | refine any_fl 16 rfl rfl rfl rfl (by kernel_rfl) rfl (fl_nil_blk rfl rfl ⟨_, rfl, ?_⟩)
                      | refine any_fl 16 rfl rfl rfl rfl (by kernel_rfl) rfl (fl_nil_cp rfl rfl ⟨_, rfl, ?_⟩)
                      first
                      | refine any_fl 17 rfl rfl rfl rfl (by kernel_rfl) rfl (fl_field_blk ti90 rfl rfl rfl rfl ⟨_, rfl, ?_⟩)
                      | refine any_fl 17 rfl rfl rfl rfl (by kernel_rfl) rfl (fl_field_cp ti90 rfl rfl rfl rfl rfl ⟨_, rfl, ?_⟩)
                      refine any_st 18 rfl rfl (by kernel_rfl) rfl rfl (by intro p hp; simp only [List.mem_cons, List.not_mem_nil, or_false] at hp; all_goals (first | exact hp.elim | (subst hp; exact ⟨by simp, _, _, rfl⟩) | (rcases hp with rfl | rfl <;> exact ⟨by simp, _, _, rfl⟩) | (rcases hp with rfl | rfl | rfl <;> exact ⟨by simp, _, _, rfl⟩) | (rcases hp with rfl | rfl | rfl | rfl <;> exact ⟨by simp, _, _, rfl⟩) | (rcases hp with rfl | rfl | rfl | rfl | rfl <;> exact ⟨by simp, _, _, rfl⟩))) (op_store ti3 rfl rfl rfl rfl rfl rfl rfl rfl rfl rfl rfl ?_)
                      refine any_end (by kernel_rfl) ?_
                      refine fin_normal ?_
                      refine fin_od (l := []) rfl rfl ([0]) ([scO s (spanB (fun x => nameB x false) s i) (s.extract i (spanB (fun x => nameB x false) s i)) i]) rfl rfl rfl ?_ ?_
                      · repeat (first | exact .nil | refine .cons rfl (.cells rfl (FitL.rfl _)) ?_ | refine .cons rfl .row ?_ | refine .cons rfl .mapI ?_ | refine .cons rfl .nnrow ?_ | refine .cons rfl .nrow ?_ | refine .cons rfl .dead ?_ | refine .cons rfl (.cells rfl ?_) ?_ | refine .cons (by first | exact .refl _ | exact .toD rfl | exact .nilD) ?_)
                      · have h := step_yes (tok_name hi hi1 (by omega) h7 (spanB_step hi1 (nameB_mono h7)).symm (by omega))
                        refine ⟨rfl, ?_⟩
                        rw [h.1, h.2.1, h.2.2, show i + (s.extract i (spanB (fun x => nameB x false) s i)).size = (spanB (fun x => nameB x false) s i) by rw [ByteArray.size_extract]; omega]; rfl
                    )
                )
            )
          · try simp only [decide_eq_true_eq, decide_eq_false_iff_not, Bool.not_eq_true', Bool.not_eq_false', Bool.not_true, Bool.not_false, Int.not_lt, Int.not_le, Bool.and_eq_true, Bool.or_eq_true, Bool.and_eq_false_iff, Bool.or_eq_false_iff, Bool.false_eq_true, Bool.true_eq_false, not_true_eq_false, not_false_eq_true, decide_true, decide_false, true_and, and_true, false_and, and_false, true_or, or_true, false_or, or_false, Bool.true_and, Bool.false_and, Bool.and_true, Bool.and_false, Bool.true_or, Bool.false_or, Bool.or_true, Bool.or_false, Int.reduceEq, Int.reduceNe, Int.reduceLT, Int.reduceLE, Int.toNat_natCast, toNat_add1] at h7
            all_goals try (first | contradiction | (exfalso; omega))
            all_goals (
              refine runs_seq ?_
              refine runs_region ?_
              refine ops_fl rfl rfl rfl (fl_move rfl rfl ?_)
              refine ops_fl rfl rfl rfl (fl_eql rfl rfl rfl ?_)
              refine ops_fl rfl rfl rfl (fl_move rfl rfl ?_)
              apply ops_or (yt := 77) (d := 75) 2 rfl rfl rfl (.none rfl) rfl rfl
              case h1 =>
                intro hb4 hK
                have hc := hb4; try simp only [decide_eq_true_eq, decide_eq_false_iff_not, Bool.not_eq_true', Bool.not_eq_false', Bool.not_true, Bool.not_false, Int.not_lt, Int.not_le, Bool.and_eq_true, Bool.or_eq_true, Bool.and_eq_false_iff, Bool.or_eq_false_iff, Bool.false_eq_true, Bool.true_eq_false, not_true_eq_false, not_false_eq_true, decide_true, decide_false, true_and, and_true, false_and, and_false, true_or, or_true, false_or, or_false, Bool.true_and, Bool.false_and, Bool.and_true, Bool.and_false, Bool.true_or, Bool.false_or, Bool.or_true, Bool.or_false, Int.reduceEq, Int.reduceNe, Int.reduceLT, Int.reduceLE, Int.toNat_natCast, toNat_add1] at hc
                all_goals try (first | contradiction | (exfalso; omega))
                all_goals (
                  refine ops_gyes rfl rfl rfl hb4 ?_
                  refine ops_fl rfl rfl rfl (fl_move rfl rfl ?_)
                  refine ops_gyes rfl rfl rfl hb4 ?_
                  refine ops_cons (T := fun _ => False) rfl (op_call ca62 rfl rfl rfl rfl (digit_spec (byteAt s i)) (.cons (by first | exact .refl _ | exact .toD rfl | exact .nilD | exact .dle rfl (by repeat' (first | exact DLe.refl _ | exact DLe.nil | exact DLeL.nil | exact DLeLL.nil | apply DLe.agg | apply DLe.tup | apply DLe.sl | apply DLe.cp | apply DLeL.cons | apply DLeLL.cons))) .nil) (fun d hd => ?_))
                  obtain rfl := hd
                  exact hK [_, _] rfl rfl)
              case h2 =>
                intro hb4 hK
                refine ops_gno rfl rfl rfl hb4 rfl rfl ?_
                refine ops_gno rfl rfl rfl hb4 rfl rfl ?_
                exact hK [_, _] rfl
              refine ops_fl rfl rfl rfl (fl_assign rfl rfl ?_)
              refine ops_nil ?_
              refine seq_normal ?_
              refine runs_cond rfl (fun h11 => ?_) (fun h11 => ?_)
              · try simp only [decide_eq_true_eq, decide_eq_false_iff_not, Bool.not_eq_true', Bool.not_eq_false', Bool.not_true, Bool.not_false, Int.not_lt, Int.not_le, Bool.and_eq_true, Bool.or_eq_true, Bool.and_eq_false_iff, Bool.or_eq_false_iff, Bool.false_eq_true, Bool.true_eq_false, not_true_eq_false, not_false_eq_true, decide_true, decide_false, true_and, and_true, false_and, and_false, true_or, or_true, false_or, or_false, Bool.true_and, Bool.false_and, Bool.and_true, Bool.and_false, Bool.true_or, Bool.false_or, Bool.or_true, Bool.or_false, Int.reduceEq, Int.reduceNe, Int.reduceLT, Int.reduceLE, Int.toNat_natCast, toNat_add1] at h11
                all_goals try (first | contradiction | (exfalso; omega))
                all_goals (
                  refine runs_seq ?_
                  refine runs_keep [3, 0] rfl ?_
                  refine runs_region ?_
                  refine ops_fl rfl rfl rfl (fl_move rfl rfl ?_)
                  first
                  | refine ops_fl rfl rfl rfl (fl_nil_blk rfl rfl ?_)
                  | refine ops_fl rfl rfl rfl (fl_nil_cp rfl rfl ?_)
                  first
                  | refine ops_fl rfl rfl rfl (fl_field_blk ti90 rfl rfl rfl rfl ?_)
                  | refine ops_fl rfl rfl rfl (fl_field_cp ti90 rfl rfl rfl rfl rfl ?_)
                  first
                  | refine ops_fl rfl rfl rfl (fl_load_blk ti3 rfl rfl rfl rfl rfl rfl rfl ?_)
                  | refine ops_fl rfl rfl rfl (fl_load_cp ti3 rfl rfl rfl rfl rfl rfl ?_)
                  refine ops_fl rfl rfl rfl (fl_assign rfl rfl ?_)
                  refine ops_nil ?_
                  refine seq_normal ?_
                  refine runs_seq ?_
                  refine runs_seq ?_
                  refine runs_keep [4, 3, 0] rfl ?_
                  refine runs_region ?_
                  refine ops_fl rfl rfl rfl (fl_move rfl rfl ?_)
                  refine ops_fl rfl rfl rfl (fl_eql rfl rfl rfl ?_)
                  refine ops_nil ?_
                  refine seq_normal ?_
                  refine runs_cond rfl (fun h13 => ?_) (fun h13 => ?_)
                  · try simp only [decide_eq_true_eq, decide_eq_false_iff_not, Bool.not_eq_true', Bool.not_eq_false', Bool.not_true, Bool.not_false, Int.not_lt, Int.not_le, Bool.and_eq_true, Bool.or_eq_true, Bool.and_eq_false_iff, Bool.or_eq_false_iff, Bool.false_eq_true, Bool.true_eq_false, not_true_eq_false, not_false_eq_true, decide_true, decide_false, true_and, and_true, false_and, and_false, true_or, or_true, false_or, or_false, Bool.true_and, Bool.false_and, Bool.and_true, Bool.and_false, Bool.true_or, Bool.false_or, Bool.or_true, Bool.or_false, Int.reduceEq, Int.reduceNe, Int.reduceLT, Int.reduceLE, Int.toNat_natCast, toNat_add1] at h13
                    all_goals try (first | contradiction | (exfalso; omega))
                    all_goals (
                      refine runs_region ?_
                      refine ops_fl rfl rfl rfl (fl_move rfl rfl ?_)
                      refine ops_fl rfl rfl rfl (fl_add rfl rfl rfl (by omega) ?_)
                      refine ops_fl rfl rfl rfl (fl_assign rfl rfl ?_)
                      refine ops_nil ?_
                      refine seq_normal ?_
                      refine runs_seq ?_
                      refine runs_keep [4, 0] rfl ?_
                      refine runs_region ?_
                      refine ops_fl rfl rfl rfl (fl_move rfl rfl ?_)
                      refine ops_fl rfl rfl rfl (fl_move rfl rfl ?_)
                      refine ops_cons rfl (op_callo ca58 rfl rfl rfl rfl (run_spec 62 _ (.inr rfl) digB ca62 (fun c _ _ => digit_spec c) s hs (i + 1) p tok0 i (by omega)) [0] (.cons rfl (by first | exact .cells rfl (FitL.rfl _) | exact .row | exact .nrow | exact .mapI | exact .nnrow | (refine .cells rfl ?_; repeat (first | exact .nil | refine .cons (by first | exact .refl _ | exact .toD rfl | exact .nil rfl | exact .nilD) ?_))) .nil) rfl rfl rfl rfl (.cons (by first | exact .refl _ | exact .toD rfl | exact .nil rfl | exact .nilD | exact .dle rfl (by repeat' (first | exact DLe.refl _ | exact DLe.nil | exact DLeL.nil | exact DLeLL.nil | apply DLe.agg | apply DLe.tup | apply DLe.sl | apply DLe.cp | apply DLeL.cons | apply DLeLL.cons))) (.cons (by first | exact .refl _ | exact .toD rfl | exact .nil rfl | exact .nilD | exact .dle rfl (by repeat' (first | exact DLe.refl _ | exact DLe.nil | exact DLeL.nil | exact DLeLL.nil | apply DLe.agg | apply DLe.tup | apply DLe.sl | apply DLe.cp | apply DLeL.cons | apply DLeLL.cons))) (.cons (by first | exact .refl _ | exact .toD rfl | exact .nil rfl | exact .nilD | exact .dle rfl (by repeat' (first | exact DLe.refl _ | exact DLe.nil | exact DLeL.nil | exact DLeLL.nil | apply DLe.agg | apply DLe.tup | apply DLe.sl | apply DLe.cp | apply DLeL.cons | apply DLeLL.cons))) .nil))) (fun s ob' hq => ?_) (fun s ob' hq => ?_))
                      rotate_left
                      · first | exact hq.elim | cases hq.1
                      obtain ⟨hq1, rfl⟩ := hq
                      cases hq1
                      refine ⟨_, _, _, _, _, rfl, rfl, rfl, rfl, rfl, ?_⟩
                      refine ops_fl rfl rfl rfl (fl_assign rfl rfl ?_)
                      refine ops_nil ?_
                      refine seq_normal ?_
                      refine runs_seq ?_
                      refine runs_region ?_
                      refine ops_fl rfl rfl rfl (fl_move rfl rfl ?_)
                      refine ops_fl rfl rfl rfl (fl_move rfl rfl ?_)
                      refine ops_fl rfl rfl rfl (fl_sub rfl rfl rfl (by omega) ?_)
                      refine ops_fl rfl rfl rfl (fl_assign rfl rfl ?_)
                      refine ops_nil ?_
                      refine seq_normal ?_
                      refine runs_seq ?_
                      refine runs_keep [5, 2, 4, 0] rfl ?_
                      refine runs_region ?_
                      refine ops_fl rfl rfl rfl (fl_move rfl rfl ?_)
                      refine ops_fl rfl rfl rfl (fl_eql rfl rfl rfl ?_)
                      refine ops_fl rfl rfl rfl (fl_move rfl rfl ?_)
                      apply ops_or (yt := 97) (d := 95) 2 rfl rfl rfl (.none rfl) rfl rfl
                      case h1 =>
                        intro hb4 hK
                        have hc := hb4; try simp only [decide_eq_true_eq, decide_eq_false_iff_not, Bool.not_eq_true', Bool.not_eq_false', Bool.not_true, Bool.not_false, Int.not_lt, Int.not_le, Bool.and_eq_true, Bool.or_eq_true, Bool.and_eq_false_iff, Bool.or_eq_false_iff, Bool.false_eq_true, Bool.true_eq_false, not_true_eq_false, not_false_eq_true, decide_true, decide_false, true_and, and_true, false_and, and_false, true_or, or_true, false_or, or_false, Bool.true_and, Bool.false_and, Bool.and_true, Bool.and_false, Bool.true_or, Bool.false_or, Bool.or_true, Bool.or_false, Int.reduceEq, Int.reduceNe, Int.reduceLT, Int.reduceLE, Int.toNat_natCast, toNat_add1] at hc
                        all_goals try (first | contradiction | (exfalso; omega))
                        all_goals (
                          refine ops_gyes rfl rfl rfl hb4 ?_
                          refine ops_fl rfl rfl rfl (fl_move rfl rfl ?_)
                          refine ops_gyes rfl rfl rfl hb4 ?_
                          refine ops_fl rfl rfl rfl (fl_gtr rfl rfl rfl ?_)
                          exact hK [_, _] rfl rfl)
                      case h2 =>
                        intro hb4 hK
                        refine ops_gno rfl rfl rfl hb4 rfl rfl ?_
                        refine ops_gno rfl rfl rfl hb4 rfl rfl ?_
                        exact hK [_, _] rfl
                      refine ops_fl rfl rfl rfl (fl_move rfl rfl ?_)
                      apply ops_or (yt := 110) (d := 99) 11 rfl rfl rfl (.none rfl) rfl rfl
                      case h1 =>
                        intro hb12 hK
                        have hc := hb12; try simp only [decide_eq_true_eq, decide_eq_false_iff_not, Bool.not_eq_true', Bool.not_eq_false', Bool.not_true, Bool.not_false, Int.not_lt, Int.not_le, Bool.and_eq_true, Bool.or_eq_true, Bool.and_eq_false_iff, Bool.or_eq_false_iff, Bool.false_eq_true, Bool.true_eq_false, not_true_eq_false, not_false_eq_true, decide_true, decide_false, true_and, and_true, false_and, and_false, true_or, or_true, false_or, or_false, Bool.true_and, Bool.false_and, Bool.and_true, Bool.and_false, Bool.true_or, Bool.false_or, Bool.or_true, Bool.or_false, Int.reduceEq, Int.reduceNe, Int.reduceLT, Int.reduceLE, Int.toNat_natCast, toNat_add1] at hc
                        all_goals try (first | contradiction | (exfalso; omega))
                        all_goals (
                          refine ops_gyes rfl rfl rfl hb12 ?_
                          refine ops_fl rfl rfl rfl (fl_move rfl rfl ?_)
                          refine ops_gyes rfl rfl rfl hb12 ?_
                          refine ops_fl rfl rfl rfl (fl_gtr rfl rfl rfl ?_)
                          refine ops_gyes rfl rfl rfl hb12 ?_
                          refine ops_fl rfl rfl rfl (fl_move rfl rfl ?_)
                          apply ops_and (yt := 109) (d := 102) 7 rfl rfl rfl (.yes rfl rfl rfl hb12) rfl rfl
                          case h1 =>
                            intro hb19 hK
                            have hc := hb19; try simp only [decide_eq_true_eq, decide_eq_false_iff_not, Bool.not_eq_true', Bool.not_eq_false', Bool.not_true, Bool.not_false, Int.not_lt, Int.not_le, Bool.and_eq_true, Bool.or_eq_true, Bool.and_eq_false_iff, Bool.or_eq_false_iff, Bool.false_eq_true, Bool.true_eq_false, not_true_eq_false, not_false_eq_true, decide_true, decide_false, true_and, and_true, false_and, and_false, true_or, or_true, false_or, or_false, Bool.true_and, Bool.false_and, Bool.and_true, Bool.and_false, Bool.true_or, Bool.false_or, Bool.or_true, Bool.or_false, Int.reduceEq, Int.reduceNe, Int.reduceLT, Int.reduceLE, Int.toNat_natCast, toNat_add1] at hc
                            all_goals try (first | contradiction | (exfalso; omega))
                            all_goals (
                              refine ops_gyes rfl rfl rfl hb19 ?_
                              refine ops_fl rfl rfl rfl (fl_move rfl rfl ?_)
                              refine ops_gyes rfl rfl rfl hb19 ?_
                              first
                              | refine ops_fl rfl rfl rfl (fl_nil_blk rfl rfl ?_)
                              | refine ops_fl rfl rfl rfl (fl_nil_cp rfl rfl ?_)
                              refine ops_gyes rfl rfl rfl hb19 ?_
                              first
                              | refine ops_fl rfl rfl rfl (fl_field_blk ti90 rfl rfl rfl rfl ?_)
                              | refine ops_fl rfl rfl rfl (fl_field_cp ti90 rfl rfl rfl rfl rfl ?_)
                              refine ops_gyes rfl rfl rfl hb19 ?_
                              first
                              | refine ops_fl rfl rfl rfl (fl_load_blk ti9 rfl rfl rfl rfl rfl rfl rfl ?_)
                              | refine ops_fl rfl rfl rfl (fl_load_cp ti9 rfl rfl rfl rfl rfl rfl ?_)
                              refine ops_gyes rfl rfl rfl hb19 ?_
                              refine ops_fl rfl rfl rfl (fl_move rfl rfl ?_)
                              refine ops_gyes rfl rfl rfl hb19 ?_
                              refine ops_fl rfl rfl rfl (fl_byte ut9 rfl rfl rfl (by omega) ?_)
                              refine ops_gyes rfl rfl rfl hb19 ?_
                              refine ops_fl rfl rfl rfl (fl_eql rfl rfl rfl ?_)
                              exact hK [_, _, _, _, _, _, _] rfl rfl)
                          case h2 =>
                            intro hb19 hK
                            refine ops_gno rfl rfl rfl hb19 rfl rfl ?_
                            refine ops_gno rfl rfl rfl hb19 rfl rfl ?_
                            refine ops_gno rfl rfl rfl hb19 rfl rfl ?_
                            refine ops_gno rfl rfl rfl hb19 rfl rfl ?_
                            refine ops_gno rfl rfl rfl hb19 rfl rfl ?_
                            refine ops_gno rfl rfl rfl hb19 rfl rfl ?_
                            refine ops_gno rfl rfl rfl hb19 rfl rfl ?_
                            exact hK [_, _, _, _, _, _, _] rfl
                          exact hK [_, _, _, _] rfl rfl)
                      case h2 =>
                        intro hb12 hK
                        refine ops_gno rfl rfl rfl hb12 rfl rfl ?_
                        refine ops_gno rfl rfl rfl hb12 rfl rfl ?_
                        refine ops_gno rfl rfl rfl hb12 rfl rfl ?_
                        refine ops_guard_undef rfl rfl rfl rfl rfl ?_
                        refine ops_guard_undef rfl rfl rfl rfl rfl ?_
                        refine ops_guard_undef rfl rfl rfl rfl rfl ?_
                        refine ops_guard_undef rfl rfl rfl rfl rfl ?_
                        refine ops_guard_undef rfl rfl rfl rfl rfl ?_
                        refine ops_guard_undef rfl rfl rfl rfl rfl ?_
                        refine ops_guard_undef rfl rfl rfl rfl rfl ?_
                        refine ops_gno rfl rfl rfl hb12 rfl rfl ?_
                        exact hK [_, _, _, _, _, _, _, _, _, _, _] rfl
                      refine ops_nil ?_
                      refine seq_normal ?_
                      refine runs_cond rfl (fun h17 => ?_) (fun h17 => ?_)
                      · try simp only [decide_eq_true_eq, decide_eq_false_iff_not, Bool.not_eq_true', Bool.not_eq_false', Bool.not_true, Bool.not_false, Int.not_lt, Int.not_le, Bool.and_eq_true, Bool.or_eq_true, Bool.and_eq_false_iff, Bool.or_eq_false_iff, Bool.false_eq_true, Bool.true_eq_false, not_true_eq_false, not_false_eq_true, decide_true, decide_false, true_and, and_true, false_and, and_false, true_or, or_true, false_or, or_false, Bool.true_and, Bool.false_and, Bool.and_true, Bool.and_false, Bool.true_or, Bool.false_or, Bool.or_true, Bool.or_false, Int.reduceEq, Int.reduceNe, Int.reduceLT, Int.reduceLE, Int.toNat_natCast, toNat_add1] at h17
                        all_goals try (first | contradiction | (exfalso; omega))
                        all_goals (
                          refine runs_keep [0] rfl ?_
                          refine runs_region ?_
                          refine ops_fl rfl rfl rfl (fl_assign rfl rfl ?_)
                          refine ops_nil ?_
                          refine inb_normal ?_
                          refine seq_normal ?_
                          refine runs_seq ?_
                          refine runs_seq ?_
                          refine runs_region ?_
                          refine ops_fl rfl rfl rfl (fl_move rfl rfl ?_)
                          refine ops_fl rfl rfl rfl (fl_lss rfl rfl rfl ?_)
                          refine ops_nil ?_
                          refine seq_normal ?_
                          refine runs_cond rfl (fun h19 => ?_) (fun h19 => ?_)
                          · try simp only [decide_eq_true_eq, decide_eq_false_iff_not, Bool.not_eq_true', Bool.not_eq_false', Bool.not_true, Bool.not_false, Int.not_lt, Int.not_le, Bool.and_eq_true, Bool.or_eq_true, Bool.and_eq_false_iff, Bool.or_eq_false_iff, Bool.false_eq_true, Bool.true_eq_false, not_true_eq_false, not_false_eq_true, decide_true, decide_false, true_and, and_true, false_and, and_false, true_or, or_true, false_or, or_false, Bool.true_and, Bool.false_and, Bool.and_true, Bool.and_false, Bool.true_or, Bool.false_or, Bool.or_true, Bool.or_false, Int.reduceEq, Int.reduceNe, Int.reduceLT, Int.reduceLE, Int.toNat_natCast, toNat_add1] at h19
                            all_goals try (first | contradiction | (exfalso; omega))
                            all_goals (
                              refine runs_seq ?_
                              refine runs_region ?_
                              refine ops_fl rfl rfl rfl (fl_move rfl rfl ?_)
                              first
                              | refine ops_fl rfl rfl rfl (fl_nil_blk rfl rfl ?_)
                              | refine ops_fl rfl rfl rfl (fl_nil_cp rfl rfl ?_)
                              first
                              | refine ops_fl rfl rfl rfl (fl_field_blk ti90 rfl rfl rfl rfl ?_)
                              | refine ops_fl rfl rfl rfl (fl_field_cp ti90 rfl rfl rfl rfl rfl ?_)
                              refine ops_cons rfl (op_store ti9 rfl rfl rfl rfl rfl rfl rfl rfl rfl rfl rfl ?_)
                              refine ops_nil ?_
                              refine seq_normal ?_
                              refine runs_ret ?_
                              refine seq_ret ?_
                              refine fin_ret ?_
                              refine fin_od (l := []) rfl rfl ([0]) ([scO s p ⟨#[0]⟩ i]) rfl rfl rfl ?_ ?_
                              · repeat (first | exact .nil | refine .cons rfl (.cells rfl (FitL.rfl _)) ?_ | refine .cons rfl .row ?_ | refine .cons rfl .mapI ?_ | refine .cons rfl .nnrow ?_ | refine .cons rfl .nrow ?_ | refine .cons rfl .dead ?_ | refine .cons rfl (.cells rfl ?_) ?_ | refine .cons (by first | exact .refl _ | exact .toD rfl | exact .nilD) ?_)
                              · have h := step_no (tok_numNo hi hi1 (by omega) h7 (by simp only [digB, decide_eq_true_eq] at h11; omega) rfl (if_pos h13) (by omega))
                                refine ⟨rfl, ?_⟩
                                rw [h.1, h.2.1, h.2.2]; rfl
                            )
                          · try simp only [decide_eq_true_eq, decide_eq_false_iff_not, Bool.not_eq_true', Bool.not_eq_false', Bool.not_true, Bool.not_false, Int.not_lt, Int.not_le, Bool.and_eq_true, Bool.or_eq_true, Bool.and_eq_false_iff, Bool.or_eq_false_iff, Bool.false_eq_true, Bool.true_eq_false, not_true_eq_false, not_false_eq_true, decide_true, decide_false, true_and, and_true, false_and, and_false, true_or, or_true, false_or, or_false, Bool.true_and, Bool.false_and, Bool.and_true, Bool.and_false, Bool.true_or, Bool.false_or, Bool.or_true, Bool.or_false, Int.reduceEq, Int.reduceNe, Int.reduceLT, Int.reduceLE, Int.toNat_natCast, toNat_add1] at h19
                            all_goals try (first | contradiction | (exfalso; omega))
                            all_goals (
                              refine runs_skip ?_
                              refine seq_normal ?_
                              refine any_start mixed rfl rfl ?_
                              refine any_fl 0 rfl rfl rfl rfl (by kernel_rfl) rfl (fl_move rfl rfl ⟨_, rfl, ?_⟩)
                              refine any_fl 1 rfl rfl rfl rfl (by kernel_rfl) rfl (fl_move rfl rfl ⟨_, rfl, ?_⟩)
                              refine any_fl 2 rfl rfl rfl rfl (by kernel_rfl) rfl (fl_move rfl rfl ⟨_, rfl, ?_⟩)
                              first
                              | refine any_fl 3 rfl rfl rfl rfl (by kernel_rfl) rfl (fl_nil_blk rfl rfl ⟨_, rfl, ?_⟩)
                              | refine any_fl 3 rfl rfl rfl rfl (by kernel_rfl) rfl (fl_nil_cp rfl rfl ⟨_, rfl, ?_⟩)
                              first
                              | refine any_fl 4 rfl rfl rfl rfl (by kernel_rfl) rfl (fl_field_blk ti90 rfl rfl rfl rfl ⟨_, rfl, ?_⟩)
                              | refine any_fl 4 rfl rfl rfl rfl (by kernel_rfl) rfl (fl_field_cp ti90 rfl rfl rfl rfl rfl ⟨_, rfl, ?_⟩)
                              first
                              | refine any_fl 5 rfl rfl rfl rfl (by kernel_rfl) rfl (fl_load_blk ti9 rfl rfl rfl rfl rfl rfl rfl ⟨_, rfl, ?_⟩)
                              | refine any_fl 5 rfl rfl rfl rfl (by kernel_rfl) rfl (fl_load_cp ti9 rfl rfl rfl rfl rfl rfl ⟨_, rfl, ?_⟩)
                              refine any_fl 6 rfl rfl rfl rfl (by kernel_rfl) rfl (fl_move rfl rfl ⟨_, rfl, ?_⟩)
                              first
                              | refine any_fl 7 rfl rfl rfl rfl (by kernel_rfl) rfl (fl_nil_blk rfl rfl ⟨_, rfl, ?_⟩)
                              | refine any_fl 7 rfl rfl rfl rfl (by kernel_rfl) rfl (fl_nil_cp rfl rfl ⟨_, rfl, ?_⟩)
                              first
                              | refine any_fl 8 rfl rfl rfl rfl (by kernel_rfl) rfl (fl_field_blk ti90 rfl rfl rfl rfl ⟨_, rfl, ?_⟩)
                              | refine any_fl 8 rfl rfl rfl rfl (by kernel_rfl) rfl (fl_field_cp ti90 rfl rfl rfl rfl rfl ⟨_, rfl, ?_⟩)
                              first
                              | refine any_fl 9 rfl rfl rfl rfl (by kernel_rfl) rfl (fl_load_blk ti3 rfl rfl rfl rfl rfl rfl rfl ⟨_, rfl, ?_⟩)
                              | refine any_fl 9 rfl rfl rfl rfl (by kernel_rfl) rfl (fl_load_cp ti3 rfl rfl rfl rfl rfl rfl ⟨_, rfl, ?_⟩)
                              refine any_fl 10 rfl rfl rfl rfl (by kernel_rfl) rfl (fl_move rfl rfl ⟨_, rfl, ?_⟩)
                              refine any_fl 11 rfl rfl rfl rfl (by kernel_rfl) rfl (fl_sub_lh ut9 rfl rfl rfl rfl (by omega) ⟨_, rfl, ?_⟩)
                              refine any_fl 12 rfl rfl rfl rfl (by kernel_rfl) rfl (fl_move rfl rfl ⟨_, rfl, ?_⟩)
                              first
                              | refine any_fl 13 rfl rfl rfl rfl (by kernel_rfl) rfl (fl_nil_blk rfl rfl ⟨_, rfl, ?_⟩)
                              | refine any_fl 13 rfl rfl rfl rfl (by kernel_rfl) rfl (fl_nil_cp rfl rfl ⟨_, rfl, ?_⟩)
                              first
                              | refine any_fl 14 rfl rfl rfl rfl (by kernel_rfl) rfl (fl_field_blk ti90 rfl rfl rfl rfl ⟨_, rfl, ?_⟩)
                              | refine any_fl 14 rfl rfl rfl rfl (by kernel_rfl) rfl (fl_field_cp ti90 rfl rfl rfl rfl rfl ⟨_, rfl, ?_⟩)
                              refine any_st 15 rfl rfl (by kernel_rfl) rfl rfl (by intro p hp; simp only [List.mem_cons, List.not_mem_nil, or_false] at hp; all_goals (first | exact hp.elim | (subst hp; exact ⟨by simp, _, _, rfl⟩) | (rcases hp with rfl | rfl <;> exact ⟨by simp, _, _, rfl⟩) | (rcases hp with rfl | rfl | rfl <;> exact ⟨by simp, _, _, rfl⟩) | (rcases hp with rfl | rfl | rfl | rfl <;> exact ⟨by simp, _, _, rfl⟩) | (rcases hp with rfl | rfl | rfl | rfl | rfl <;> exact ⟨by simp, _, _, rfl⟩))) (op_store ti9 rfl rfl rfl rfl rfl rfl rfl rfl rfl rfl rfl ?_)
                              first
                              | refine any_fl 16 rfl rfl rfl rfl (by kernel_rfl) rfl (fl_nil_blk rfl rfl ⟨_, rfl, ?_⟩)
                              | refine any_fl 16 rfl rfl rfl rfl (by kernel_rfl) rfl (fl_nil_cp rfl rfl ⟨_, rfl, ?_⟩)
                              first
                              | refine any_fl 17 rfl rfl rfl rfl (by kernel_rfl) rfl (fl_field_blk ti90 rfl rfl rfl rfl ⟨_, rfl, ?_⟩)
                              | refine any_fl 17 rfl rfl rfl rfl (by kernel_rfl) rfl (fl_field_cp ti90 rfl rfl rfl rfl rfl ⟨_, rfl, ?_⟩)
                              refine any_st 18 rfl rfl (by kernel_rfl) rfl rfl (by intro p hp; simp only [List.mem_cons, List.not_mem_nil, or_false] at hp; all_goals (first | exact hp.elim | (subst hp; exact ⟨by simp, _, _, rfl⟩) | (rcases hp with rfl | rfl <;> exact ⟨by simp, _, _, rfl⟩) | (rcases hp with rfl | rfl | rfl <;> exact ⟨by simp, _, _, rfl⟩) | (rcases hp with rfl | rfl | rfl | rfl <;> exact ⟨by simp, _, _, rfl⟩) | (rcases hp with rfl | rfl | rfl | rfl | rfl <;> exact ⟨by simp, _, _, rfl⟩))) (op_store ti3 rfl rfl rfl rfl rfl rfl rfl rfl rfl rfl rfl ?_)
                              refine any_end (by kernel_rfl) ?_
                              refine fin_normal ?_
                              refine fin_od (l := []) rfl rfl ([0]) ([scO s (i + 1) (s.extract i (i + 1)) i]) rfl rfl rfl ?_ ?_
                              · repeat (first | exact .nil | refine .cons rfl (.cells rfl (FitL.rfl _)) ?_ | refine .cons rfl .row ?_ | refine .cons rfl .mapI ?_ | refine .cons rfl .nnrow ?_ | refine .cons rfl .nrow ?_ | refine .cons rfl .dead ?_ | refine .cons rfl (.cells rfl ?_) ?_ | refine .cons (by first | exact .refl _ | exact .toD rfl | exact .nilD) ?_)
                              · exact ⟨rfl, rfl⟩
                            )
                        )
                      · try simp only [decide_eq_true_eq, decide_eq_false_iff_not, Bool.not_eq_true', Bool.not_eq_false', Bool.not_true, Bool.not_false, Int.not_lt, Int.not_le, Bool.and_eq_true, Bool.or_eq_true, Bool.and_eq_false_iff, Bool.or_eq_false_iff, Bool.false_eq_true, Bool.true_eq_false, not_true_eq_false, not_false_eq_true, decide_true, decide_false, true_and, and_true, false_and, and_false, true_or, or_true, false_or, or_false, Bool.true_and, Bool.false_and, Bool.and_true, Bool.and_false, Bool.true_or, Bool.false_or, Bool.or_true, Bool.or_false, Int.reduceEq, Int.reduceNe, Int.reduceLT, Int.reduceLE, Int.toNat_natCast, toNat_add1] at h17
                        all_goals try (first | contradiction | (exfalso; omega))
                        all_goals (
                          refine runs_skip ?_
                          refine inb_normal ?_
                          refine seq_normal ?_
                          refine runs_seq ?_
                          refine runs_seq ?_
                          refine runs_keep [2, 0] rfl ?_
                          refine runs_region ?_
                          refine ops_fl rfl rfl rfl (fl_move rfl rfl ?_)
                          refine ops_fl rfl rfl rfl (fl_lss rfl rfl rfl ?_)
                          refine ops_nil ?_
                          refine seq_normal ?_
                          refine runs_cond rfl (fun h19 => ?_) (fun h19 => ?_)
                          · try simp only [decide_eq_true_eq, decide_eq_false_iff_not, Bool.not_eq_true', Bool.not_eq_false', Bool.not_true, Bool.not_false, Int.not_lt, Int.not_le, Bool.and_eq_true, Bool.or_eq_true, Bool.and_eq_false_iff, Bool.or_eq_false_iff, Bool.false_eq_true, Bool.true_eq_false, not_true_eq_false, not_false_eq_true, decide_true, decide_false, true_and, and_true, false_and, and_false, true_or, or_true, false_or, or_false, Bool.true_and, Bool.false_and, Bool.and_true, Bool.and_false, Bool.true_or, Bool.false_or, Bool.or_true, Bool.or_false, Int.reduceEq, Int.reduceNe, Int.reduceLT, Int.reduceLE, Int.toNat_natCast, toNat_add1] at h19
                            all_goals try (first | contradiction | (exfalso; omega))
                            all_goals (
                              refine runs_seq ?_
                              refine runs_region ?_
                              refine ops_fl rfl rfl rfl (fl_move rfl rfl ?_)
                              first
                              | refine ops_fl rfl rfl rfl (fl_nil_blk rfl rfl ?_)
                              | refine ops_fl rfl rfl rfl (fl_nil_cp rfl rfl ?_)
                              first
                              | refine ops_fl rfl rfl rfl (fl_field_blk ti90 rfl rfl rfl rfl ?_)
                              | refine ops_fl rfl rfl rfl (fl_field_cp ti90 rfl rfl rfl rfl rfl ?_)
                              refine ops_cons rfl (op_store ti9 rfl rfl rfl rfl rfl rfl rfl rfl rfl rfl rfl ?_)
                              refine ops_nil ?_
                              refine seq_normal ?_
                              refine runs_ret ?_
                              refine seq_ret ?_
                              refine fin_ret ?_
                              refine fin_od (l := []) rfl rfl ([0]) ([scO s p ⟨#[0]⟩ i]) rfl rfl rfl ?_ ?_
                              · repeat (first | exact .nil | refine .cons rfl (.cells rfl (FitL.rfl _)) ?_ | refine .cons rfl .row ?_ | refine .cons rfl .mapI ?_ | refine .cons rfl .nnrow ?_ | refine .cons rfl .nrow ?_ | refine .cons rfl .dead ?_ | refine .cons rfl (.cells rfl ?_) ?_ | refine .cons (by first | exact .refl _ | exact .toD rfl | exact .nilD) ?_)
                              · exact ⟨rfl, rfl⟩
                            )
                          · try simp only [decide_eq_true_eq, decide_eq_false_iff_not, Bool.not_eq_true', Bool.not_eq_false', Bool.not_true, Bool.not_false, Int.not_lt, Int.not_le, Bool.and_eq_true, Bool.or_eq_true, Bool.and_eq_false_iff, Bool.or_eq_false_iff, Bool.false_eq_true, Bool.true_eq_false, not_true_eq_false, not_false_eq_true, decide_true, decide_false, true_and, and_true, false_and, and_false, true_or, or_true, false_or, or_false, Bool.true_and, Bool.false_and, Bool.and_true, Bool.and_false, Bool.true_or, Bool.false_or, Bool.or_true, Bool.or_false, Int.reduceEq, Int.reduceNe, Int.reduceLT, Int.reduceLE, Int.toNat_natCast, toNat_add1] at h19
                            all_goals try (first | contradiction | (exfalso; omega))
                            all_goals (
                              refine runs_skip ?_
                              refine seq_normal ?_
                              refine any_start mixed rfl rfl ?_
                              refine any_fl 0 rfl rfl rfl rfl (by kernel_rfl) rfl (fl_move rfl rfl ⟨_, rfl, ?_⟩)
                              refine any_fl 1 rfl rfl rfl rfl (by kernel_rfl) rfl (fl_move rfl rfl ⟨_, rfl, ?_⟩)
                              refine any_fl 2 rfl rfl rfl rfl (by kernel_rfl) rfl (fl_move rfl rfl ⟨_, rfl, ?_⟩)
                              first
                              | refine any_fl 3 rfl rfl rfl rfl (by kernel_rfl) rfl (fl_nil_blk rfl rfl ⟨_, rfl, ?_⟩)
                              | refine any_fl 3 rfl rfl rfl rfl (by kernel_rfl) rfl (fl_nil_cp rfl rfl ⟨_, rfl, ?_⟩)
                              first
                              | refine any_fl 4 rfl rfl rfl rfl (by kernel_rfl) rfl (fl_field_blk ti90 rfl rfl rfl rfl ⟨_, rfl, ?_⟩)
                              | refine any_fl 4 rfl rfl rfl rfl (by kernel_rfl) rfl (fl_field_cp ti90 rfl rfl rfl rfl rfl ⟨_, rfl, ?_⟩)
                              first
                              | refine any_fl 5 rfl rfl rfl rfl (by kernel_rfl) rfl (fl_load_blk ti9 rfl rfl rfl rfl rfl rfl rfl ⟨_, rfl, ?_⟩)
                              | refine any_fl 5 rfl rfl rfl rfl (by kernel_rfl) rfl (fl_load_cp ti9 rfl rfl rfl rfl rfl rfl ⟨_, rfl, ?_⟩)
                              refine any_fl 6 rfl rfl rfl rfl (by kernel_rfl) rfl (fl_move rfl rfl ⟨_, rfl, ?_⟩)
                              first
                              | refine any_fl 7 rfl rfl rfl rfl (by kernel_rfl) rfl (fl_nil_blk rfl rfl ⟨_, rfl, ?_⟩)
                              | refine any_fl 7 rfl rfl rfl rfl (by kernel_rfl) rfl (fl_nil_cp rfl rfl ⟨_, rfl, ?_⟩)
                              first
                              | refine any_fl 8 rfl rfl rfl rfl (by kernel_rfl) rfl (fl_field_blk ti90 rfl rfl rfl rfl ⟨_, rfl, ?_⟩)
                              | refine any_fl 8 rfl rfl rfl rfl (by kernel_rfl) rfl (fl_field_cp ti90 rfl rfl rfl rfl rfl ⟨_, rfl, ?_⟩)
                              first
                              | refine any_fl 9 rfl rfl rfl rfl (by kernel_rfl) rfl (fl_load_blk ti3 rfl rfl rfl rfl rfl rfl rfl ⟨_, rfl, ?_⟩)
                              | refine any_fl 9 rfl rfl rfl rfl (by kernel_rfl) rfl (fl_load_cp ti3 rfl rfl rfl rfl rfl rfl ⟨_, rfl, ?_⟩)
                              refine any_fl 10 rfl rfl rfl rfl (by kernel_rfl) rfl (fl_move rfl rfl ⟨_, rfl, ?_⟩)
                              refine any_fl 11 rfl rfl rfl rfl (by kernel_rfl) rfl (fl_sub_lh ut9 rfl rfl rfl rfl (by omega) ⟨_, rfl, ?_⟩)
                              refine any_fl 12 rfl rfl rfl rfl (by kernel_rfl) rfl (fl_move rfl rfl ⟨_, rfl, ?_⟩)
                              first
                              | refine any_fl 13 rfl rfl rfl rfl (by kernel_rfl) rfl (fl_nil_blk rfl rfl ⟨_, rfl, ?_⟩)
                              | refine any_fl 13 rfl rfl rfl rfl (by kernel_rfl) rfl (fl_nil_cp rfl rfl ⟨_, rfl, ?_⟩)
                              first
                              | refine any_fl 14 rfl rfl rfl rfl (by kernel_rfl) rfl (fl_field_blk ti90 rfl rfl rfl rfl ⟨_, rfl, ?_⟩)
                              | refine any_fl 14 rfl rfl rfl rfl (by kernel_rfl) rfl (fl_field_cp ti90 rfl rfl rfl rfl rfl ⟨_, rfl, ?_⟩)
                              refine any_st 15 rfl rfl (by kernel_rfl) rfl rfl (by intro p hp; simp only [List.mem_cons, List.not_mem_nil, or_false] at hp; all_goals (first | exact hp.elim | (subst hp; exact ⟨by simp, _, _, rfl⟩) | (rcases hp with rfl | rfl <;> exact ⟨by simp, _, _, rfl⟩) | (rcases hp with rfl | rfl | rfl <;> exact ⟨by simp, _, _, rfl⟩) | (rcases hp with rfl | rfl | rfl | rfl <;> exact ⟨by simp, _, _, rfl⟩) | (rcases hp with rfl | rfl | rfl | rfl | rfl <;> exact ⟨by simp, _, _, rfl⟩))) (op_store ti9 rfl rfl rfl rfl rfl rfl rfl rfl rfl rfl rfl ?_)
                              first
                              | refine any_fl 16 rfl rfl rfl rfl (by kernel_rfl) rfl (fl_nil_blk rfl rfl ⟨_, rfl, ?_⟩)
                              | refine any_fl 16 rfl rfl rfl rfl (by kernel_rfl) rfl (fl_nil_cp rfl rfl ⟨_, rfl, ?_⟩)
                              first
                              | refine any_fl 17 rfl rfl rfl rfl (by kernel_rfl) rfl (fl_field_blk ti90 rfl rfl rfl rfl ⟨_, rfl, ?_⟩)
                              | refine any_fl 17 rfl rfl rfl rfl (by kernel_rfl) rfl (fl_field_cp ti90 rfl rfl rfl rfl rfl ⟨_, rfl, ?_⟩)
                              refine any_st 18 rfl rfl (by kernel_rfl) rfl rfl (by intro p hp; simp only [List.mem_cons, List.not_mem_nil, or_false] at hp; all_goals (first | exact hp.elim | (subst hp; exact ⟨by simp, _, _, rfl⟩) | (rcases hp with rfl | rfl <;> exact ⟨by simp, _, _, rfl⟩) | (rcases hp with rfl | rfl | rfl <;> exact ⟨by simp, _, _, rfl⟩) | (rcases hp with rfl | rfl | rfl | rfl <;> exact ⟨by simp, _, _, rfl⟩) | (rcases hp with rfl | rfl | rfl | rfl | rfl <;> exact ⟨by simp, _, _, rfl⟩))) (op_store ti3 rfl rfl rfl rfl rfl rfl rfl rfl rfl rfl rfl ?_)
                              refine any_end (by kernel_rfl) ?_
                              refine fin_normal ?_
                              refine fin_od (l := []) rfl rfl ([0]) ([scO s (spanB digB s (i + 1)) (s.extract i (spanB digB s (i + 1))) i]) rfl rfl rfl ?_ ?_
                              · repeat (first | exact .nil | refine .cons rfl (.cells rfl (FitL.rfl _)) ?_ | refine .cons rfl .row ?_ | refine .cons rfl .mapI ?_ | refine .cons rfl .nnrow ?_ | refine .cons rfl .nrow ?_ | refine .cons rfl .dead ?_ | refine .cons rfl (.cells rfl ?_) ?_ | refine .cons (by first | exact .refl _ | exact .toD rfl | exact .nilD) ?_)
                              · have h := step_yes (tok_num hi hi1 (by omega) h7 (by simp only [digB, decide_eq_true_eq] at h11; omega) rfl (if_pos h13) (by omega))
                                refine ⟨rfl, ?_⟩
                                rw [h.1, h.2.1, h.2.2, show i + (s.extract i (spanB digB s (i + 1))).size = (spanB digB s (i + 1)) by rw [ByteArray.size_extract]; omega]; rfl
                            )
                        )
                    )
                  · try simp only [decide_eq_true_eq, decide_eq_false_iff_not, Bool.not_eq_true', Bool.not_eq_false', Bool.not_true, Bool.not_false, Int.not_lt, Int.not_le, Bool.and_eq_true, Bool.or_eq_true, Bool.and_eq_false_iff, Bool.or_eq_false_iff, Bool.false_eq_true, Bool.true_eq_false, not_true_eq_false, not_false_eq_true, decide_true, decide_false, true_and, and_true, false_and, and_false, true_or, or_true, false_or, or_false, Bool.true_and, Bool.false_and, Bool.and_true, Bool.and_false, Bool.true_or, Bool.false_or, Bool.or_true, Bool.or_false, Int.reduceEq, Int.reduceNe, Int.reduceLT, Int.reduceLE, Int.toNat_natCast, toNat_add1] at h13
                    all_goals try (first | contradiction | (exfalso; omega))
                    all_goals (
                      refine runs_skip ?_
                      refine seq_normal ?_
                      refine runs_seq ?_
                      refine runs_region ?_
                      refine ops_fl rfl rfl rfl (fl_move rfl rfl ?_)
                      refine ops_fl rfl rfl rfl (fl_move rfl rfl ?_)
                      refine ops_cons rfl (op_callo ca58 rfl rfl rfl rfl (run_spec 62 _ (.inr rfl) digB ca62 (fun c _ _ => digit_spec c) s hs i p tok0 i hil.2) [0] (.cons rfl (by first | exact .cells rfl (FitL.rfl _) | exact .row | exact .nrow | exact .mapI | exact .nnrow | (refine .cells rfl ?_; repeat (first | exact .nil | refine .cons (by first | exact .refl _ | exact .toD rfl | exact .nil rfl | exact .nilD) ?_))) .nil) rfl rfl rfl rfl (.cons (by first | exact .refl _ | exact .toD rfl | exact .nil rfl | exact .nilD | exact .dle rfl (by repeat' (first | exact DLe.refl _ | exact DLe.nil | exact DLeL.nil | exact DLeLL.nil | apply DLe.agg | apply DLe.tup | apply DLe.sl | apply DLe.cp | apply DLeL.cons | apply DLeLL.cons))) (.cons (by first | exact .refl _ | exact .toD rfl | exact .nil rfl | exact .nilD | exact .dle rfl (by repeat' (first | exact DLe.refl _ | exact DLe.nil | exact DLeL.nil | exact DLeLL.nil | apply DLe.agg | apply DLe.tup | apply DLe.sl | apply DLe.cp | apply DLeL.cons | apply DLeLL.cons))) (.cons (by first | exact .refl _ | exact .toD rfl | exact .nil rfl | exact .nilD | exact .dle rfl (by repeat' (first | exact DLe.refl _ | exact DLe.nil | exact DLeL.nil | exact DLeLL.nil | apply DLe.agg | apply DLe.tup | apply DLe.sl | apply DLe.cp | apply DLeL.cons | apply DLeLL.cons))) .nil))) (fun s ob' hq => ?_) (fun s ob' hq => ?_))
                      rotate_left
                      · first | exact hq.elim | cases hq.1
                      obtain ⟨hq1, rfl⟩ := hq
                      cases hq1
                      refine ⟨_, _, _, _, _, rfl, rfl, rfl, rfl, rfl, ?_⟩
                      refine ops_fl rfl rfl rfl (fl_assign rfl rfl ?_)
                      refine ops_nil ?_
                      refine seq_normal ?_
                      refine runs_seq ?_
                      refine runs_keep [2, 4, 0] rfl ?_
                      refine runs_region ?_
                      refine ops_fl rfl rfl rfl (fl_move rfl rfl ?_)
                      refine ops_fl rfl rfl rfl (fl_move rfl rfl ?_)
                      refine ops_fl rfl rfl rfl (fl_sub rfl rfl rfl (by omega) ?_)
                      refine ops_fl rfl rfl rfl (fl_assign rfl rfl ?_)
                      refine ops_nil ?_
                      refine seq_normal ?_
                      refine runs_seq ?_
                      refine runs_region ?_
                      refine ops_fl rfl rfl rfl (fl_move rfl rfl ?_)
                      refine ops_fl rfl rfl rfl (fl_eql rfl rfl rfl ?_)
                      refine ops_fl rfl rfl rfl (fl_move rfl rfl ?_)
                      apply ops_or (yt := 97) (d := 95) 2 rfl rfl rfl (.none rfl) rfl rfl
                      case h1 =>
                        intro hb4 hK
                        have hc := hb4; try simp only [decide_eq_true_eq, decide_eq_false_iff_not, Bool.not_eq_true', Bool.not_eq_false', Bool.not_true, Bool.not_false, Int.not_lt, Int.not_le, Bool.and_eq_true, Bool.or_eq_true, Bool.and_eq_false_iff, Bool.or_eq_false_iff, Bool.false_eq_true, Bool.true_eq_false, not_true_eq_false, not_false_eq_true, decide_true, decide_false, true_and, and_true, false_and, and_false, true_or, or_true, false_or, or_false, Bool.true_and, Bool.false_and, Bool.and_true, Bool.and_false, Bool.true_or, Bool.false_or, Bool.or_true, Bool.or_false, Int.reduceEq, Int.reduceNe, Int.reduceLT, Int.reduceLE, Int.toNat_natCast, toNat_add1] at hc
                        all_goals try (first | contradiction | (exfalso; omega))
                        all_goals (
                          refine ops_gyes rfl rfl rfl hb4 ?_
                          refine ops_fl rfl rfl rfl (fl_move rfl rfl ?_)
                          refine ops_gyes rfl rfl rfl hb4 ?_
                          refine ops_fl rfl rfl rfl (fl_gtr rfl rfl rfl ?_)
                          exact hK [_, _] rfl rfl)
                      case h2 =>
                        intro hb4 hK
                        refine ops_gno rfl rfl rfl hb4 rfl rfl ?_
                        refine ops_gno rfl rfl rfl hb4 rfl rfl ?_
                        exact hK [_, _] rfl
                      refine ops_fl rfl rfl rfl (fl_move rfl rfl ?_)
                      apply ops_or (yt := 110) (d := 99) 11 rfl rfl rfl (.none rfl) rfl rfl
                      case h1 =>
                        intro hb12 hK
                        have hc := hb12; try simp only [decide_eq_true_eq, decide_eq_false_iff_not, Bool.not_eq_true', Bool.not_eq_false', Bool.not_true, Bool.not_false, Int.not_lt, Int.not_le, Bool.and_eq_true, Bool.or_eq_true, Bool.and_eq_false_iff, Bool.or_eq_false_iff, Bool.false_eq_true, Bool.true_eq_false, not_true_eq_false, not_false_eq_true, decide_true, decide_false, true_and, and_true, false_and, and_false, true_or, or_true, false_or, or_false, Bool.true_and, Bool.false_and, Bool.and_true, Bool.and_false, Bool.true_or, Bool.false_or, Bool.or_true, Bool.or_false, Int.reduceEq, Int.reduceNe, Int.reduceLT, Int.reduceLE, Int.toNat_natCast, toNat_add1] at hc
                        all_goals try (first | contradiction | (exfalso; omega))
                        all_goals (
                          refine ops_gyes rfl rfl rfl hb12 ?_
                          refine ops_fl rfl rfl rfl (fl_move rfl rfl ?_)
                          refine ops_gyes rfl rfl rfl hb12 ?_
                          refine ops_fl rfl rfl rfl (fl_gtr rfl rfl rfl ?_)
                          refine ops_gyes rfl rfl rfl hb12 ?_
                          refine ops_fl rfl rfl rfl (fl_move rfl rfl ?_)
                          apply ops_and (yt := 109) (d := 102) 7 rfl rfl rfl (.yes rfl rfl rfl hb12) rfl rfl
                          case h1 =>
                            intro hb19 hK
                            have hc := hb19; try simp only [decide_eq_true_eq, decide_eq_false_iff_not, Bool.not_eq_true', Bool.not_eq_false', Bool.not_true, Bool.not_false, Int.not_lt, Int.not_le, Bool.and_eq_true, Bool.or_eq_true, Bool.and_eq_false_iff, Bool.or_eq_false_iff, Bool.false_eq_true, Bool.true_eq_false, not_true_eq_false, not_false_eq_true, decide_true, decide_false, true_and, and_true, false_and, and_false, true_or, or_true, false_or, or_false, Bool.true_and, Bool.false_and, Bool.and_true, Bool.and_false, Bool.true_or, Bool.false_or, Bool.or_true, Bool.or_false, Int.reduceEq, Int.reduceNe, Int.reduceLT, Int.reduceLE, Int.toNat_natCast, toNat_add1] at hc
                            all_goals try (first | contradiction | (exfalso; omega))
                            all_goals (
                              refine ops_gyes rfl rfl rfl hb19 ?_
                              refine ops_fl rfl rfl rfl (fl_move rfl rfl ?_)
                              refine ops_gyes rfl rfl rfl hb19 ?_
                              first
                              | refine ops_fl rfl rfl rfl (fl_nil_blk rfl rfl ?_)
                              | refine ops_fl rfl rfl rfl (fl_nil_cp rfl rfl ?_)
                              refine ops_gyes rfl rfl rfl hb19 ?_
                              first
                              | refine ops_fl rfl rfl rfl (fl_field_blk ti90 rfl rfl rfl rfl ?_)
                              | refine ops_fl rfl rfl rfl (fl_field_cp ti90 rfl rfl rfl rfl rfl ?_)
                              refine ops_gyes rfl rfl rfl hb19 ?_
                              first
                              | refine ops_fl rfl rfl rfl (fl_load_blk ti9 rfl rfl rfl rfl rfl rfl rfl ?_)
                              | refine ops_fl rfl rfl rfl (fl_load_cp ti9 rfl rfl rfl rfl rfl rfl ?_)
                              refine ops_gyes rfl rfl rfl hb19 ?_
                              refine ops_fl rfl rfl rfl (fl_move rfl rfl ?_)
                              refine ops_gyes rfl rfl rfl hb19 ?_
                              refine ops_fl rfl rfl rfl (fl_byte ut9 rfl rfl rfl (by omega) ?_)
                              refine ops_gyes rfl rfl rfl hb19 ?_
                              refine ops_fl rfl rfl rfl (fl_eql rfl rfl rfl ?_)
                              exact hK [_, _, _, _, _, _, _] rfl rfl)
                          case h2 =>
                            intro hb19 hK
                            refine ops_gno rfl rfl rfl hb19 rfl rfl ?_
                            refine ops_gno rfl rfl rfl hb19 rfl rfl ?_
                            refine ops_gno rfl rfl rfl hb19 rfl rfl ?_
                            refine ops_gno rfl rfl rfl hb19 rfl rfl ?_
                            refine ops_gno rfl rfl rfl hb19 rfl rfl ?_
                            refine ops_gno rfl rfl rfl hb19 rfl rfl ?_
                            refine ops_gno rfl rfl rfl hb19 rfl rfl ?_
                            exact hK [_, _, _, _, _, _, _] rfl
                          exact hK [_, _, _, _] rfl rfl)
                      case h2 =>
                        intro hb12 hK
                        refine ops_gno rfl rfl rfl hb12 rfl rfl ?_
                        refine ops_gno rfl rfl rfl hb12 rfl rfl ?_
                        refine ops_gno rfl rfl rfl hb12 rfl rfl ?_
                        refine ops_guard_undef rfl rfl rfl rfl rfl ?_
                        refine ops_guard_undef rfl rfl rfl rfl rfl ?_
                        refine ops_guard_undef rfl rfl rfl rfl rfl ?_
                        refine ops_guard_undef rfl rfl rfl rfl rfl ?_
                        refine ops_guard_undef rfl rfl rfl rfl rfl ?_
                        refine ops_guard_undef rfl rfl rfl rfl rfl ?_
                        refine ops_guard_undef rfl rfl rfl rfl rfl ?_
                        refine ops_gno rfl rfl rfl hb12 rfl rfl ?_
                        exact hK [_, _, _, _, _, _, _, _, _, _, _] rfl
                      refine ops_nil ?_
                      refine seq_normal ?_
                      refine runs_cond rfl (fun h17 => ?_) (fun h17 => ?_)
                      · try simp only [decide_eq_true_eq, decide_eq_false_iff_not, Bool.not_eq_true', Bool.not_eq_false', Bool.not_true, Bool.not_false, Int.not_lt, Int.not_le, Bool.and_eq_true, Bool.or_eq_true, Bool.and_eq_false_iff, Bool.or_eq_false_iff, Bool.false_eq_true, Bool.true_eq_false, not_true_eq_false, not_false_eq_true, decide_true, decide_false, true_and, and_true, false_and, and_false, true_or, or_true, false_or, or_false, Bool.true_and, Bool.false_and, Bool.and_true, Bool.and_false, Bool.true_or, Bool.false_or, Bool.or_true, Bool.or_false, Int.reduceEq, Int.reduceNe, Int.reduceLT, Int.reduceLE, Int.toNat_natCast, toNat_add1] at h17
                        all_goals try (first | contradiction | (exfalso; omega))
                        all_goals (
                          refine runs_keep [0] rfl ?_
                          refine runs_region ?_
                          refine ops_fl rfl rfl rfl (fl_assign rfl rfl ?_)
                          refine ops_nil ?_
                          refine inb_normal ?_
                          refine seq_normal ?_
                          refine runs_seq ?_
                          refine runs_seq ?_
                          refine runs_region ?_
                          refine ops_fl rfl rfl rfl (fl_move rfl rfl ?_)
                          refine ops_fl rfl rfl rfl (fl_lss rfl rfl rfl ?_)
                          refine ops_nil ?_
                          refine seq_normal ?_
                          refine runs_cond rfl (fun h19 => ?_) (fun h19 => ?_)
                          · try simp only [decide_eq_true_eq, decide_eq_false_iff_not, Bool.not_eq_true', Bool.not_eq_false', Bool.not_true, Bool.not_false, Int.not_lt, Int.not_le, Bool.and_eq_true, Bool.or_eq_true, Bool.and_eq_false_iff, Bool.or_eq_false_iff, Bool.false_eq_true, Bool.true_eq_false, not_true_eq_false, not_false_eq_true, decide_true, decide_false, true_and, and_true, false_and, and_false, true_or, or_true, false_or, or_false, Bool.true_and, Bool.false_and, Bool.and_true, Bool.and_false, Bool.true_or, Bool.false_or, Bool.or_true, Bool.or_false, Int.reduceEq, Int.reduceNe, Int.reduceLT, Int.reduceLE, Int.toNat_natCast, toNat_add1] at h19
                            all_goals try (first | contradiction | (exfalso; omega))
                            all_goals (
                              refine runs_seq ?_
                              refine runs_region ?_
                              refine ops_fl rfl rfl rfl (fl_move rfl rfl ?_)
                              first
                              | refine ops_fl rfl rfl rfl (fl_nil_blk rfl rfl ?_)
                              | refine ops_fl rfl rfl rfl (fl_nil_cp rfl rfl ?_)
                              first
                              | refine ops_fl rfl rfl rfl (fl_field_blk ti90 rfl rfl rfl rfl ?_)
                              | refine ops_fl rfl rfl rfl (fl_field_cp ti90 rfl rfl rfl rfl rfl ?_)
                              refine ops_cons rfl (op_store ti9 rfl rfl rfl rfl rfl rfl rfl rfl rfl rfl rfl ?_)
                              refine ops_nil ?_
                              refine seq_normal ?_
                              refine runs_ret ?_
                              refine seq_ret ?_
                              refine fin_ret ?_
                              refine fin_od (l := []) rfl rfl ([0]) ([scO s p ⟨#[0]⟩ i]) rfl rfl rfl ?_ ?_
                              · repeat (first | exact .nil | refine .cons rfl (.cells rfl (FitL.rfl _)) ?_ | refine .cons rfl .row ?_ | refine .cons rfl .mapI ?_ | refine .cons rfl .nnrow ?_ | refine .cons rfl .nrow ?_ | refine .cons rfl .dead ?_ | refine .cons rfl (.cells rfl ?_) ?_ | refine .cons (by first | exact .refl _ | exact .toD rfl | exact .nilD) ?_)
                              · have h := step_no (tok_numNo hi hi1 (by omega) h7 (by simp only [digB, decide_eq_true_eq] at h11; omega) (spanB_step hi1 (by rcases h11 with h11 | h11; omega; exact h11)).symm (if_neg h13) (by omega))
                                refine ⟨rfl, ?_⟩
                                rw [h.1, h.2.1, h.2.2]; rfl
                            )
                          · try simp only [decide_eq_true_eq, decide_eq_false_iff_not, Bool.not_eq_true', Bool.not_eq_false', Bool.not_true, Bool.not_false, Int.not_lt, Int.not_le, Bool.and_eq_true, Bool.or_eq_true, Bool.and_eq_false_iff, Bool.or_eq_false_iff, Bool.false_eq_true, Bool.true_eq_false, not_true_eq_false, not_false_eq_true, decide_true, decide_false, true_and, and_true, false_and, and_false, true_or, or_true, false_or, or_false, Bool.true_and, Bool.false_and, Bool.and_true, Bool.and_false, Bool.true_or, Bool.false_or, Bool.or_true, Bool.or_false, Int.reduceEq, Int.reduceNe, Int.reduceLT, Int.reduceLE, Int.toNat_natCast, toNat_add1] at h19
                            all_goals try (first | contradiction | (exfalso; omega))
                            all_goals (
                              refine runs_skip ?_
                              refine seq_normal ?_
                              refine any_start mixed rfl rfl ?_
                              refine any_fl 0 rfl rfl rfl rfl (by kernel_rfl) rfl (fl_move rfl rfl ⟨_, rfl, ?_⟩)
                              refine any_fl 1 rfl rfl rfl rfl (by kernel_rfl) rfl (fl_move rfl rfl ⟨_, rfl, ?_⟩)
                              refine any_fl 2 rfl rfl rfl rfl (by kernel_rfl) rfl (fl_move rfl rfl ⟨_, rfl, ?_⟩)
                              first
                              | refine any_fl 3 rfl rfl rfl rfl (by kernel_rfl) rfl (fl_nil_blk rfl rfl ⟨_, rfl, ?_⟩)
                              | refine any_fl 3 rfl rfl rfl rfl (by kernel_rfl) rfl (fl_nil_cp rfl rfl ⟨_, rfl, ?_⟩)
                              first
                              | refine any_fl 4 rfl rfl rfl rfl (by kernel_rfl) rfl (fl_field_blk ti90 rfl rfl rfl rfl ⟨_, rfl, ?_⟩)
                              | refine any_fl 4 rfl rfl rfl rfl (by kernel_rfl) rfl (fl_field_cp ti90 rfl rfl rfl rfl rfl ⟨_, rfl, ?_⟩)
                              first
                              | refine any_fl 5 rfl rfl rfl rfl (by kernel_rfl) rfl (fl_load_blk ti9 rfl rfl rfl rfl rfl rfl rfl ⟨_, rfl, ?_⟩)
                              | refine any_fl 5 rfl rfl rfl rfl (by kernel_rfl) rfl (fl_load_cp ti9 rfl rfl rfl rfl rfl rfl ⟨_, rfl, ?_⟩)
                              refine any_fl 6 rfl rfl rfl rfl (by kernel_rfl) rfl (fl_move rfl rfl ⟨_, rfl, ?_⟩)
                              first
                              | refine any_fl 7 rfl rfl rfl rfl (by kernel_rfl) rfl (fl_nil_blk rfl rfl ⟨_, rfl, ?_⟩)
                              | refine any_fl 7 rfl rfl rfl rfl (by kernel_rfl) rfl (fl_nil_cp rfl rfl ⟨_, rfl, ?_⟩)
                              first
                              | refine any_fl 8 rfl rfl rfl rfl (by kernel_rfl) rfl (fl_field_blk ti90 rfl rfl rfl rfl ⟨_, rfl, ?_⟩)
                              | refine any_fl 8 rfl rfl rfl rfl (by kernel_rfl) rfl (fl_field_cp ti90 rfl rfl rfl rfl rfl ⟨_, rfl, ?_⟩)
                              first
                              | refine any_fl 9 rfl rfl rfl rfl (by kernel_rfl) rfl (fl_load_blk ti3 rfl rfl rfl rfl rfl rfl rfl ⟨_, rfl, ?_⟩)
                              | refine any_fl 9 rfl rfl rfl rfl (by kernel_rfl) rfl (fl_load_cp ti3 rfl rfl rfl rfl rfl rfl ⟨_, rfl, ?_⟩)
                              refine any_fl 10 rfl rfl rfl rfl (by kernel_rfl) rfl (fl_move rfl rfl ⟨_, rfl, ?_⟩)
                              refine any_fl 11 rfl rfl rfl rfl (by kernel_rfl) rfl (fl_sub_lh ut9 rfl rfl rfl rfl (by omega) ⟨_, rfl, ?_⟩)
                              refine any_fl 12 rfl rfl rfl rfl (by kernel_rfl) rfl (fl_move rfl rfl ⟨_, rfl, ?_⟩)
                              first
                              | refine any_fl 13 rfl rfl rfl rfl (by kernel_rfl) rfl (fl_nil_blk rfl rfl ⟨_, rfl, ?_⟩)
                              | refine any_fl 13 rfl rfl rfl rfl (by kernel_rfl) rfl (fl_nil_cp rfl rfl ⟨_, rfl, ?_⟩)
                              first
                              | refine any_fl 14 rfl rfl rfl rfl (by kernel_rfl) rfl (fl_field_blk ti90 rfl rfl rfl rfl ⟨_, rfl, ?_⟩)
                              | refine any_fl 14 rfl rfl rfl rfl (by kernel_rfl) rfl (fl_field_cp ti90 rfl rfl rfl rfl rfl ⟨_, rfl, ?_⟩)
                              refine any_st 15 rfl rfl (by kernel_rfl) rfl rfl (by intro p hp; simp only [List.mem_cons, List.not_mem_nil, or_false] at hp; all_goals (first | exact hp.elim | (subst hp; exact ⟨by simp, _, _, rfl⟩) | (rcases hp with rfl | rfl <;> exact ⟨by simp, _, _, rfl⟩) | (rcases hp with rfl | rfl | rfl <;> exact ⟨by simp, _, _, rfl⟩) | (rcases hp with rfl | rfl | rfl | rfl <;> exact ⟨by simp, _, _, rfl⟩) | (rcases hp with rfl | rfl | rfl | rfl | rfl <;> exact ⟨by simp, _, _, rfl⟩))) (op_store ti9 rfl rfl rfl rfl rfl rfl rfl rfl rfl rfl rfl ?_)
                              first
                              | refine any_fl 16 rfl rfl rfl rfl (by kernel_rfl) rfl (fl_nil_blk rfl rfl ⟨_, rfl, ?_⟩)
                              | refine any_fl 16 rfl rfl rfl rfl (by kernel_rfl) rfl (fl_nil_cp rfl rfl ⟨_, rfl, ?_⟩)
                              first
                              | refine any_fl 17 rfl rfl rfl rfl (by kernel_rfl) rfl (fl_field_blk ti90 rfl rfl rfl rfl ⟨_, rfl, ?_⟩)
                              | refine any_fl 17 rfl rfl rfl rfl (by kernel_rfl) rfl (fl_field_cp ti90 rfl rfl rfl rfl rfl ⟨_, rfl, ?_⟩)
                              refine any_st 18 rfl rfl (by kernel_rfl) rfl rfl (by intro p hp; simp only [List.mem_cons, List.not_mem_nil, or_false] at hp; all_goals (first | exact hp.elim | (subst hp; exact ⟨by simp, _, _, rfl⟩) | (rcases hp with rfl | rfl <;> exact ⟨by simp, _, _, rfl⟩) | (rcases hp with rfl | rfl | rfl <;> exact ⟨by simp, _, _, rfl⟩) | (rcases hp with rfl | rfl | rfl | rfl <;> exact ⟨by simp, _, _, rfl⟩) | (rcases hp with rfl | rfl | rfl | rfl | rfl <;> exact ⟨by simp, _, _, rfl⟩))) (op_store ti3 rfl rfl rfl rfl rfl rfl rfl rfl rfl rfl rfl ?_)
                              refine any_end (by kernel_rfl) ?_
                              refine fin_normal ?_
                              refine fin_od (l := []) rfl rfl ([0]) ([scO s (i + 1) (s.extract i (i + 1)) i]) rfl rfl rfl ?_ ?_
                              · repeat (first | exact .nil | refine .cons rfl (.cells rfl (FitL.rfl _)) ?_ | refine .cons rfl .row ?_ | refine .cons rfl .mapI ?_ | refine .cons rfl .nnrow ?_ | refine .cons rfl .nrow ?_ | refine .cons rfl .dead ?_ | refine .cons rfl (.cells rfl ?_) ?_ | refine .cons (by first | exact .refl _ | exact .toD rfl | exact .nilD) ?_)
                              · exact ⟨rfl, rfl⟩
                            )
                        )
                      · try simp only [decide_eq_true_eq, decide_eq_false_iff_not, Bool.not_eq_true', Bool.not_eq_false', Bool.not_true, Bool.not_false, Int.not_lt, Int.not_le, Bool.and_eq_true, Bool.or_eq_true, Bool.and_eq_false_iff, Bool.or_eq_false_iff, Bool.false_eq_true, Bool.true_eq_false, not_true_eq_false, not_false_eq_true, decide_true, decide_false, true_and, and_true, false_and, and_false, true_or, or_true, false_or, or_false, Bool.true_and, Bool.false_and, Bool.and_true, Bool.and_false, Bool.true_or, Bool.false_or, Bool.or_true, Bool.or_false, Int.reduceEq, Int.reduceNe, Int.reduceLT, Int.reduceLE, Int.toNat_natCast, toNat_add1] at h17
                        all_goals try (first | contradiction | (exfalso; omega))
                        all_goals (
                          refine runs_skip ?_
                          refine inb_normal ?_
                          refine seq_normal ?_
                          refine runs_seq ?_
                          refine runs_seq ?_
                          refine runs_keep [2, 0] rfl ?_
                          refine runs_region ?_
                          refine ops_fl rfl rfl rfl (fl_move rfl rfl ?_)
                          refine ops_fl rfl rfl rfl (fl_lss rfl rfl rfl ?_)
                          refine ops_nil ?_
                          refine seq_normal ?_
                          refine runs_cond rfl (fun h19 => ?_) (fun h19 => ?_)
                          · try simp only [decide_eq_true_eq, decide_eq_false_iff_not, Bool.not_eq_true', Bool.not_eq_false', Bool.not_true, Bool.not_false, Int.not_lt, Int.not_le, Bool.and_eq_true, Bool.or_eq_true, Bool.and_eq_false_iff, Bool.or_eq_false_iff, Bool.false_eq_true, Bool.true_eq_false, not_true_eq_false, not_false_eq_true, decide_true, decide_false, true_and, and_true, false_and, and_false, true_or, or_true, false_or, or_false, Bool.true_and, Bool.false_and, Bool.and_true, Bool.and_false, Bool.true_or, Bool.false_or, Bool.or_true, Bool.or_false, Int.reduceEq, Int.reduceNe, Int.reduceLT, Int.reduceLE, Int.toNat_natCast, toNat_add1] at h19
                            all_goals try (first | contradiction | (exfalso; omega))
                            all_goals (
                              refine runs_seq ?_
                              refine runs_region ?_
                              refine ops_fl rfl rfl rfl (fl_move rfl rfl ?_)
                              first
                              | refine ops_fl rfl rfl rfl (fl_nil_blk rfl rfl ?_)
                              | refine ops_fl rfl rfl rfl (fl_nil_cp rfl rfl ?_)
                              first
                              | refine ops_fl rfl rfl rfl (fl_field_blk ti90 rfl rfl rfl rfl ?_)
                              | refine ops_fl rfl rfl rfl (fl_field_cp ti90 rfl rfl rfl rfl rfl ?_)
                              refine ops_cons rfl (op_store ti9 rfl rfl rfl rfl rfl rfl rfl rfl rfl rfl rfl ?_)
                              refine ops_nil ?_
                              refine seq_normal ?_
                              refine runs_ret ?_
                              refine seq_ret ?_
                              refine fin_ret ?_
                              refine fin_od (l := []) rfl rfl ([0]) ([scO s p ⟨#[0]⟩ i]) rfl rfl rfl ?_ ?_
                              · repeat (first | exact .nil | refine .cons rfl (.cells rfl (FitL.rfl _)) ?_ | refine .cons rfl .row ?_ | refine .cons rfl .mapI ?_ | refine .cons rfl .nnrow ?_ | refine .cons rfl .nrow ?_ | refine .cons rfl .dead ?_ | refine .cons rfl (.cells rfl ?_) ?_ | refine .cons (by first | exact .refl _ | exact .toD rfl | exact .nilD) ?_)
                              · exact ⟨rfl, rfl⟩
                            )
                          · try simp only [decide_eq_true_eq, decide_eq_false_iff_not, Bool.not_eq_true', Bool.not_eq_false', Bool.not_true, Bool.not_false, Int.not_lt, Int.not_le, Bool.and_eq_true, Bool.or_eq_true, Bool.and_eq_false_iff, Bool.or_eq_false_iff, Bool.false_eq_true, Bool.true_eq_false, not_true_eq_false, not_false_eq_true, decide_true, decide_false, true_and, and_true, false_and, and_false, true_or, or_true, false_or, or_false, Bool.true_and, Bool.false_and, Bool.and_true, Bool.and_false, Bool.true_or, Bool.false_or, Bool.or_true, Bool.or_false, Int.reduceEq, Int.reduceNe, Int.reduceLT, Int.reduceLE, Int.toNat_natCast, toNat_add1] at h19
                            all_goals try (first | contradiction | (exfalso; omega))
                            all_goals (
                              refine runs_skip ?_
                              refine seq_normal ?_
                              refine any_start mixed rfl rfl ?_
                              refine any_fl 0 rfl rfl rfl rfl (by kernel_rfl) rfl (fl_move rfl rfl ⟨_, rfl, ?_⟩)
                              refine any_fl 1 rfl rfl rfl rfl (by kernel_rfl) rfl (fl_move rfl rfl ⟨_, rfl, ?_⟩)
                              refine any_fl 2 rfl rfl rfl rfl (by kernel_rfl) rfl (fl_move rfl rfl ⟨_, rfl, ?_⟩)
                              first
                              | refine any_fl 3 rfl rfl rfl rfl (by kernel_rfl) rfl (fl_nil_blk rfl rfl ⟨_, rfl, ?_⟩)
                              | refine any_fl 3 rfl rfl rfl rfl (by kernel_rfl) rfl (fl_nil_cp rfl rfl ⟨_, rfl, ?_⟩)
                              first
                              | refine any_fl 4 rfl rfl rfl rfl (by kernel_rfl) rfl (fl_field_blk ti90 rfl rfl rfl rfl ⟨_, rfl, ?_⟩)
                              | refine any_fl 4 rfl rfl rfl rfl (by kernel_rfl) rfl (fl_field_cp ti90 rfl rfl rfl rfl rfl ⟨_, rfl, ?_⟩)
                              first
                              | refine any_fl 5 rfl rfl rfl rfl (by kernel_rfl) rfl (fl_load_blk ti9 rfl rfl rfl rfl rfl rfl rfl ⟨_, rfl, ?_⟩)
                              | refine any_fl 5 rfl rfl rfl rfl (by kernel_rfl) rfl (fl_load_cp ti9 rfl rfl rfl rfl rfl rfl ⟨_, rfl, ?_⟩)
                              refine any_fl 6 rfl rfl rfl rfl (by kernel_rfl) rfl (fl_move rfl rfl ⟨_, rfl, ?_⟩)
                              first
                              | refine any_fl 7 rfl rfl rfl rfl (by kernel_rfl) rfl (fl_nil_blk rfl rfl ⟨_, rfl, ?_⟩)
                              | refine any_fl 7 rfl rfl rfl rfl (by kernel_rfl) rfl (fl_nil_cp rfl rfl ⟨_, rfl, ?_⟩)
                              first
                              | refine any_fl 8 rfl rfl rfl rfl (by kernel_rfl) rfl (fl_field_blk ti90 rfl rfl rfl rfl ⟨_, rfl, ?_⟩)
                              | refine any_fl 8 rfl rfl rfl rfl (by kernel_rfl) rfl (fl_field_cp ti90 rfl rfl rfl rfl rfl ⟨_, rfl, ?_⟩)
                              first
                              | refine any_fl 9 rfl rfl rfl rfl (by kernel_rfl) rfl (fl_load_blk ti3 rfl rfl rfl rfl rfl rfl rfl ⟨_, rfl, ?_⟩)
                              | refine any_fl 9 rfl rfl rfl rfl (by kernel_rfl) rfl (fl_load_cp ti3 rfl rfl rfl rfl rfl rfl ⟨_, rfl, ?_⟩)
                              refine any_fl 10 rfl rfl rfl rfl (by kernel_rfl) rfl (fl_move rfl rfl ⟨_, rfl, ?_⟩)
                              refine any_fl 11 rfl rfl rfl rfl (by kernel_rfl) rfl (fl_sub_lh ut9 rfl rfl rfl rfl (by omega) ⟨_, rfl, ?_⟩)
                              refine any_fl 12 rfl rfl rfl rfl (by kernel_rfl) rfl (fl_move rfl rfl ⟨_, rfl, ?_⟩)
                              first
                              | refine any_fl 13 rfl rfl rfl rfl (by kernel_rfl) rfl (fl_nil_blk rfl rfl ⟨_, rfl, ?_⟩)
                              | refine any_fl 13 rfl rfl rfl rfl (by kernel_rfl) rfl (fl_nil_cp rfl rfl ⟨_, rfl, ?_⟩)
                              first
                              | refine any_fl 14 rfl rfl rfl rfl (by kernel_rfl) rfl (fl_field_blk ti90 rfl rfl rfl rfl ⟨_, rfl, ?_⟩)
                              | refine any_fl 14 rfl rfl rfl rfl (by kernel_rfl) rfl (fl_field_cp ti90 rfl rfl rfl rfl rfl ⟨_, rfl, ?_⟩)
                              refine any_st 15 rfl rfl (by kernel_rfl) rfl rfl (by intro p hp; simp only [List.mem_cons, List.not_mem_nil, or_false] at hp; all_goals (first | exact hp.elim | (subst hp; exact ⟨by simp, _, _, rfl⟩) | (rcases hp with rfl | rfl <;> exact ⟨by simp, _, _, rfl⟩) | (rcases hp with rfl | rfl | rfl <;> exact ⟨by simp, _, _, rfl⟩) | (rcases hp with rfl | rfl | rfl | rfl <;> exact ⟨by simp, _, _, rfl⟩) | (rcases hp with rfl | rfl | rfl | rfl | rfl <;> exact ⟨by simp, _, _, rfl⟩))) (op_store ti9 rfl rfl rfl rfl rfl rfl rfl rfl rfl rfl rfl ?_)
                              first
                              | refine any_fl 16 rfl rfl rfl rfl (by kernel_rfl) rfl (fl_nil_blk rfl rfl ⟨_, rfl, ?_⟩)
                              | refine any_fl 16 rfl rfl rfl rfl (by kernel_rfl) rfl (fl_nil_cp rfl rfl ⟨_, rfl, ?_⟩)
                              first
                              | refine any_fl 17 rfl rfl rfl rfl (by kernel_rfl) rfl (fl_field_blk ti90 rfl rfl rfl rfl ⟨_, rfl, ?_⟩)
                              | refine any_fl 17 rfl rfl rfl rfl (by kernel_rfl) rfl (fl_field_cp ti90 rfl rfl rfl rfl rfl ⟨_, rfl, ?_⟩)
                              refine any_st 18 rfl rfl (by kernel_rfl) rfl rfl (by intro p hp; simp only [List.mem_cons, List.not_mem_nil, or_false] at hp; all_goals (first | exact hp.elim | (subst hp; exact ⟨by simp, _, _, rfl⟩) | (rcases hp with rfl | rfl <;> exact ⟨by simp, _, _, rfl⟩) | (rcases hp with rfl | rfl | rfl <;> exact ⟨by simp, _, _, rfl⟩) | (rcases hp with rfl | rfl | rfl | rfl <;> exact ⟨by simp, _, _, rfl⟩) | (rcases hp with rfl | rfl | rfl | rfl | rfl <;> exact ⟨by simp, _, _, rfl⟩))) (op_store ti3 rfl rfl rfl rfl rfl rfl rfl rfl rfl rfl rfl ?_)
                              refine any_end (by kernel_rfl) ?_
                              refine fin_normal ?_
                              refine fin_od (l := []) rfl rfl ([0]) ([scO s (spanB digB s i) (s.extract i (spanB digB s i)) i]) rfl rfl rfl ?_ ?_
                              · repeat (first | exact .nil | refine .cons rfl (.cells rfl (FitL.rfl _)) ?_ | refine .cons rfl .row ?_ | refine .cons rfl .mapI ?_ | refine .cons rfl .nnrow ?_ | refine .cons rfl .nrow ?_ | refine .cons rfl .dead ?_ | refine .cons rfl (.cells rfl ?_) ?_ | refine .cons (by first | exact .refl _ | exact .toD rfl | exact .nilD) ?_)
                              · have h := step_yes (tok_num hi hi1 (by omega) h7 (by simp only [digB, decide_eq_true_eq] at h11; omega) (spanB_step hi1 (by rcases h11 with h11 | h11; omega; exact h11)).symm (if_neg h13) (by omega))
                                refine ⟨rfl, ?_⟩
                                rw [h.1, h.2.1, h.2.2, show i + (s.extract i (spanB digB s i)).size = (spanB digB s i) by rw [ByteArray.size_extract]; omega]; rfl
                            )
                        )
                    )
                )
              · try simp only [decide_eq_true_eq, decide_eq_false_iff_not, Bool.not_eq_true', Bool.not_eq_false', Bool.not_true, Bool.not_false, Int.not_lt, Int.not_le, Bool.and_eq_true, Bool.or_eq_true, Bool.and_eq_false_iff, Bool.or_eq_false_iff, Bool.false_eq_true, Bool.true_eq_false, not_true_eq_false, not_false_eq_true, decide_true, decide_false, true_and, and_true, false_and, and_false, true_or, or_true, false_or, or_false, Bool.true_and, Bool.false_and, Bool.and_true, Bool.and_false, Bool.true_or, Bool.false_or, Bool.or_true, Bool.or_false, Int.reduceEq, Int.reduceNe, Int.reduceLT, Int.reduceLE, Int.toNat_natCast, toNat_add1] at h11
                all_goals try (first | contradiction | (exfalso; omega))
                all_goals (
                  refine runs_keep [0] rfl ?_
                  refine runs_region ?_
                  refine ops_fl rfl rfl rfl (fl_assign rfl rfl ?_)
                  refine ops_nil ?_
                  refine inb_normal ?_
                  refine seq_normal ?_
                  refine runs_seq ?_
                  refine runs_seq ?_
                  refine runs_region ?_
                  refine ops_fl rfl rfl rfl (fl_move rfl rfl ?_)
                  refine ops_fl rfl rfl rfl (fl_lss rfl rfl rfl ?_)
                  refine ops_nil ?_
                  refine seq_normal ?_
                  refine runs_cond rfl (fun h19 => ?_) (fun h19 => ?_)
                  · try simp only [decide_eq_true_eq, decide_eq_false_iff_not, Bool.not_eq_true', Bool.not_eq_false', Bool.not_true, Bool.not_false, Int.not_lt, Int.not_le, Bool.and_eq_true, Bool.or_eq_true, Bool.and_eq_false_iff, Bool.or_eq_false_iff, Bool.false_eq_true, Bool.true_eq_false, not_true_eq_false, not_false_eq_true, decide_true, decide_false, true_and, and_true, false_and, and_false, true_or, or_true, false_or, or_false, Bool.true_and, Bool.false_and, Bool.and_true, Bool.and_false, Bool.true_or, Bool.false_or, Bool.or_true, Bool.or_false, Int.reduceEq, Int.reduceNe, Int.reduceLT, Int.reduceLE, Int.toNat_natCast, toNat_add1] at h19
                    all_goals try (first | contradiction | (exfalso; omega))
                    all_goals (
                      refine runs_seq ?_
                      refine runs_region ?_
                      refine ops_fl rfl rfl rfl (fl_move rfl rfl ?_)
                      first
                      | refine ops_fl rfl rfl rfl (fl_nil_blk rfl rfl ?_)
                      | refine ops_fl rfl rfl rfl (fl_nil_cp rfl rfl ?_)
                      first
                      | refine ops_fl rfl rfl rfl (fl_field_blk ti90 rfl rfl rfl rfl ?_)
                      | refine ops_fl rfl rfl rfl (fl_field_cp ti90 rfl rfl rfl rfl rfl ?_)
                      refine ops_cons rfl (op_store ti9 rfl rfl rfl rfl rfl rfl rfl rfl rfl rfl rfl ?_)
                      refine ops_nil ?_
                      refine seq_normal ?_
                      refine runs_ret ?_
                      refine seq_ret ?_
                      refine fin_ret ?_
                      refine fin_od (l := []) rfl rfl ([0]) ([scO s p ⟨#[0]⟩ i]) rfl rfl rfl ?_ ?_
                      · repeat (first | exact .nil | refine .cons rfl (.cells rfl (FitL.rfl _)) ?_ | refine .cons rfl .row ?_ | refine .cons rfl .mapI ?_ | refine .cons rfl .nnrow ?_ | refine .cons rfl .nrow ?_ | refine .cons rfl .dead ?_ | refine .cons rfl (.cells rfl ?_) ?_ | refine .cons (by first | exact .refl _ | exact .toD rfl | exact .nilD) ?_)
                      · have h := step_no (tok_none hi hi1 (by omega) h7 (by simp only [digB, decide_eq_false_iff_not] at h11; omega))
                        refine ⟨rfl, ?_⟩
                        rw [h.1, h.2.1, h.2.2]; rfl
                    )
                  · try simp only [decide_eq_true_eq, decide_eq_false_iff_not, Bool.not_eq_true', Bool.not_eq_false', Bool.not_true, Bool.not_false, Int.not_lt, Int.not_le, Bool.and_eq_true, Bool.or_eq_true, Bool.and_eq_false_iff, Bool.or_eq_false_iff, Bool.false_eq_true, Bool.true_eq_false, not_true_eq_false, not_false_eq_true, decide_true, decide_false, true_and, and_true, false_and, and_false, true_or, or_true, false_or, or_false, Bool.true_and, Bool.false_and, Bool.and_true, Bool.and_false, Bool.true_or, Bool.false_or, Bool.or_true, Bool.or_false, Int.reduceEq, Int.reduceNe, Int.reduceLT, Int.reduceLE, Int.toNat_natCast, toNat_add1] at h19
                    all_goals try (first | contradiction | (exfalso; omega))
                    all_goals (
                      refine runs_skip ?_
                      refine seq_normal ?_
                      refine any_start mixed rfl rfl ?_
                      refine any_fl 0 rfl rfl rfl rfl (by kernel_rfl) rfl (fl_move rfl rfl ⟨_, rfl, ?_⟩)
                      refine any_fl 1 rfl rfl rfl rfl (by kernel_rfl) rfl (fl_move rfl rfl ⟨_, rfl, ?_⟩)
                      refine any_fl 2 rfl rfl rfl rfl (by kernel_rfl) rfl (fl_move rfl rfl ⟨_, rfl, ?_⟩)
                      first
                      | refine any_fl 3 rfl rfl rfl rfl (by kernel_rfl) rfl (fl_nil_blk rfl rfl ⟨_, rfl, ?_⟩)
                      | refine any_fl 3 rfl rfl rfl rfl (by kernel_rfl) rfl (fl_nil_cp rfl rfl ⟨_, rfl, ?_⟩)
                      first
                      | refine any_fl 4 rfl rfl rfl rfl (by kernel_rfl) rfl (fl_field_blk ti90 rfl rfl rfl rfl ⟨_, rfl, ?_⟩)
                      | refine any_fl 4 rfl rfl rfl rfl (by kernel_rfl) rfl (fl_field_cp ti90 rfl rfl rfl rfl rfl ⟨_, rfl, ?_⟩)
                      first
                      | refine any_fl 5 rfl rfl rfl rfl (by kernel_rfl) rfl (fl_load_blk ti9 rfl rfl rfl rfl rfl rfl rfl ⟨_, rfl, ?_⟩)
                      | refine any_fl 5 rfl rfl rfl rfl (by kernel_rfl) rfl (fl_load_cp ti9 rfl rfl rfl rfl rfl rfl ⟨_, rfl, ?_⟩)
                      refine any_fl 6 rfl rfl rfl rfl (by kernel_rfl) rfl (fl_move rfl rfl ⟨_, rfl, ?_⟩)
                      first
                      | refine any_fl 7 rfl rfl rfl rfl (by kernel_rfl) rfl (fl_nil_blk rfl rfl ⟨_, rfl, ?_⟩)
                      | refine any_fl 7 rfl rfl rfl rfl (by kernel_rfl) rfl (fl_nil_cp rfl rfl ⟨_, rfl, ?_⟩)
                      first
                      | refine any_fl 8 rfl rfl rfl rfl (by kernel_rfl) rfl (fl_field_blk ti90 rfl rfl rfl rfl ⟨_, rfl, ?_⟩)
                      | refine any_fl 8 rfl rfl rfl rfl (by kernel_rfl) rfl (fl_field_cp ti90 rfl rfl rfl rfl rfl ⟨_, rfl, ?_⟩)
                      first
                      | refine any_fl 9 rfl rfl rfl rfl (by kernel_rfl) rfl (fl_load_blk ti3 rfl rfl rfl rfl rfl rfl rfl ⟨_, rfl, ?_⟩)
                      | refine any_fl 9 rfl rfl rfl rfl (by kernel_rfl) rfl (fl_load_cp ti3 rfl rfl rfl rfl rfl rfl ⟨_, rfl, ?_⟩)
                      refine any_fl 10 rfl rfl rfl rfl (by kernel_rfl) rfl (fl_move rfl rfl ⟨_, rfl, ?_⟩)
                      refine any_fl 11 rfl rfl rfl rfl (by kernel_rfl) rfl (fl_sub_lh ut9 rfl rfl rfl rfl (by omega) ⟨_, rfl, ?_⟩)
                      refine any_fl 12 rfl rfl rfl rfl (by kernel_rfl) rfl (fl_move rfl rfl ⟨_, rfl, ?_⟩)
                      first
                      | refine any_fl 13 rfl rfl rfl rfl (by kernel_rfl) rfl (fl_nil_blk rfl rfl ⟨_, rfl, ?_⟩)
                      | refine any_fl 13 rfl rfl rfl rfl (by kernel_rfl) rfl (fl_nil_cp rfl rfl ⟨_, rfl, ?_⟩)
                      first
                      | refine any_fl 14 rfl rfl rfl rfl (by kernel_rfl) rfl (fl_field_blk ti90 rfl rfl rfl rfl ⟨_, rfl, ?_⟩)
                      | refine any_fl 14 rfl rfl rfl rfl (by kernel_rfl) rfl (fl_field_cp ti90 rfl rfl rfl rfl rfl ⟨_, rfl, ?_⟩)
                      refine any_st 15 rfl rfl (by kernel_rfl) rfl rfl (by intro p hp; simp only [List.mem_cons, List.not_mem_nil, or_false] at hp; all_goals (first | exact hp.elim | (subst hp; exact ⟨by simp, _, _, rfl⟩) | (rcases hp with rfl | rfl <;> exact ⟨by simp, _, _, rfl⟩) | (rcases hp with rfl | rfl | rfl <;> exact ⟨by simp, _, _, rfl⟩) | (rcases hp with rfl | rfl | rfl | rfl <;> exact ⟨by simp, _, _, rfl⟩) | (rcases hp with rfl | rfl | rfl | rfl | rfl <;> exact ⟨by simp, _, _, rfl⟩))) (op_store ti9 rfl rfl rfl rfl rfl rfl rfl rfl rfl rfl rfl ?_)
                      first
                      | refine any_fl 16 rfl rfl rfl rfl (by kernel_rfl) rfl (fl_nil_blk rfl rfl ⟨_, rfl, ?_⟩)
                      | refine any_fl 16 rfl rfl rfl rfl (by kernel_rfl) rfl (fl_nil_cp rfl rfl ⟨_, rfl, ?_⟩)
                      first
                      | refine any_fl 17 rfl rfl rfl rfl (by kernel_rfl) rfl (fl_field_blk ti90 rfl rfl rfl rfl ⟨_, rfl, ?_⟩)
                      | refine any_fl 17 rfl rfl rfl rfl (by kernel_rfl) rfl (fl_field_cp ti90 rfl rfl rfl rfl rfl ⟨_, rfl, ?_⟩)
                      refine any_st 18 rfl rfl (by kernel_rfl) rfl rfl (by intro p hp; simp only [List.mem_cons, List.not_mem_nil, or_false] at hp; all_goals (first | exact hp.elim | (subst hp; exact ⟨by simp, _, _, rfl⟩) | (rcases hp with rfl | rfl <;> exact ⟨by simp, _, _, rfl⟩) | (rcases hp with rfl | rfl | rfl <;> exact ⟨by simp, _, _, rfl⟩) | (rcases hp with rfl | rfl | rfl | rfl <;> exact ⟨by simp, _, _, rfl⟩) | (rcases hp with rfl | rfl | rfl | rfl | rfl <;> exact ⟨by simp, _, _, rfl⟩))) (op_store ti3 rfl rfl rfl rfl rfl rfl rfl rfl rfl rfl rfl ?_)
                      refine any_end (by kernel_rfl) ?_
                      refine fin_normal ?_
                      refine fin_od (l := []) rfl rfl ([0]) ([scO s (i + 1) (s.extract i (i + 1)) i]) rfl rfl rfl ?_ ?_
                      · repeat (first | exact .nil | refine .cons rfl (.cells rfl (FitL.rfl _)) ?_ | refine .cons rfl .row ?_ | refine .cons rfl .mapI ?_ | refine .cons rfl .nnrow ?_ | refine .cons rfl .nrow ?_ | refine .cons rfl .dead ?_ | refine .cons rfl (.cells rfl ?_) ?_ | refine .cons (by first | exact .refl _ | exact .toD rfl | exact .nilD) ?_)
                      · exact ⟨rfl, rfl⟩
                    )
                )
            )
        )
    )
end Go.Proofs.YtafhnnbbfgoacaaDoor
