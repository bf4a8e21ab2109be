/-
  What is proved here: contracts of the reference's reader: nameByte, isName, token.
-/
import Derived.Test.YtafhnnbbfgoacaaDoorYRead
import Derived.Test.YtafhnnbbfgoacaaDoorYR1
set_option linter.unusedSimpArgs false
set_option linter.unusedVariables false
namespace Go.Proofs.YtafhnnbbfgoacaaDoor
open Go Go.Vd Go.RowKit
attribute [local irreducible] Runs OpsR OpR FloatR AnyR
variable {gl : Nat → List D}

theorem nameByte_spec (c : Int) (first : Bool) : TriD Tryd.prog gl 55 [.v (.int .u8 c), .v (.bool first)] (· = .v (.bool (nameB c first))) := by
  refine triD_of_runs Tryd.func55 rfl Tryd.ntmps55 (rs := [.tmp 4]) rfl rfl rfl ?_
  refine runs_seq ?_
  refine runs_region ?_
  refine ops_fl rfl rfl rfl (fl_assign rfl rfl ?_)
  refine ops_nil ?_
  refine seq_normal ?_
  refine runs_seq ?_
  refine runs_region ?_
  refine ops_fl rfl rfl rfl (fl_move rfl rfl ?_)
  refine ops_fl rfl rfl rfl (fl_geq rfl rfl rfl ?_)
  refine ops_fl rfl rfl rfl (fl_move rfl rfl ?_)
  apply ops_and (yt := 10) (d := 8) 2 rfl rfl rfl (.none rfl) rfl rfl
  case h1 =>
    intro hb5 hK
    have hc := hb5; try simp only [decide_eq_true_eq, decide_eq_false_iff_not, Bool.not_eq_true', Bool.not_eq_false', Bool.not_true, Bool.not_false, Int.not_lt, Int.not_le, Bool.and_eq_true, Bool.or_eq_true, Bool.and_eq_false_iff, Bool.or_eq_false_iff, Bool.false_eq_true, Bool.true_eq_false, not_true_eq_false, not_false_eq_true, decide_true, decide_false, true_and, and_true, false_and, and_false, true_or, or_true, false_or, or_false, Bool.true_and, Bool.false_and, Bool.and_true, Bool.and_false, Bool.true_or, Bool.false_or, Bool.or_true, Bool.or_false, Int.reduceEq, Int.reduceNe, Int.reduceLT, Int.reduceLE, Int.toNat_natCast, toNat_add1] at hc
    all_goals try (first | contradiction | (exfalso; omega))
    all_goals (
      refine ops_gyes rfl rfl rfl hb5 ?_
      refine ops_fl rfl rfl rfl (fl_move rfl rfl ?_)
      refine ops_gyes rfl rfl rfl hb5 ?_
      refine ops_fl rfl rfl rfl (fl_leq rfl rfl rfl ?_)
      exact hK [_, _] rfl rfl)
  case h2 =>
    intro hb5 hK
    refine ops_gno rfl rfl rfl hb5 rfl rfl ?_
    refine ops_gno rfl rfl rfl hb5 rfl rfl ?_
    exact hK [_, _] rfl
  refine ops_fl rfl rfl rfl (fl_move rfl rfl ?_)
  apply ops_or (yt := 18) (d := 12) 6 rfl rfl rfl (.none rfl) rfl rfl
  case h1 =>
    intro hb12 hK
    have hc := hb12; try simp only [decide_eq_true_eq, decide_eq_false_iff_not, Bool.not_eq_true', Bool.not_eq_false', Bool.not_true, Bool.not_false, Int.not_lt, Int.not_le, Bool.and_eq_true, Bool.or_eq_true, Bool.and_eq_false_iff, Bool.or_eq_false_iff, Bool.false_eq_true, Bool.true_eq_false, not_true_eq_false, not_false_eq_true, decide_true, decide_false, true_and, and_true, false_and, and_false, true_or, or_true, false_or, or_false, Bool.true_and, Bool.false_and, Bool.and_true, Bool.and_false, Bool.true_or, Bool.false_or, Bool.or_true, Bool.or_false, Int.reduceEq, Int.reduceNe, Int.reduceLT, Int.reduceLE, Int.toNat_natCast, toNat_add1] at hc
    all_goals try (first | contradiction | (exfalso; omega))
    all_goals (
      refine ops_gyes rfl rfl rfl hb12 ?_
      refine ops_fl rfl rfl rfl (fl_move rfl rfl ?_)
      refine ops_gyes rfl rfl rfl hb12 ?_
      refine ops_fl rfl rfl rfl (fl_geq rfl rfl rfl ?_)
      refine ops_gyes rfl rfl rfl hb12 ?_
      refine ops_fl rfl rfl rfl (fl_move rfl rfl ?_)
      apply ops_and (yt := 17) (d := 15) 2 rfl rfl rfl (.yes rfl rfl rfl hb12) rfl rfl
      case h1 =>
        intro hb19 hK
        have hc := hb19; try simp only [decide_eq_true_eq, decide_eq_false_iff_not, Bool.not_eq_true', Bool.not_eq_false', Bool.not_true, Bool.not_false, Int.not_lt, Int.not_le, Bool.and_eq_true, Bool.or_eq_true, Bool.and_eq_false_iff, Bool.or_eq_false_iff, Bool.false_eq_true, Bool.true_eq_false, not_true_eq_false, not_false_eq_true, decide_true, decide_false, true_and, and_true, false_and, and_false, true_or, or_true, false_or, or_false, Bool.true_and, Bool.false_and, Bool.and_true, Bool.and_false, Bool.true_or, Bool.false_or, Bool.or_true, Bool.or_false, Int.reduceEq, Int.reduceNe, Int.reduceLT, Int.reduceLE, Int.toNat_natCast, toNat_add1] at hc
        all_goals try (first | contradiction | (exfalso; omega))
        all_goals (
          refine ops_gyes rfl rfl rfl hb19 ?_
          refine ops_fl rfl rfl rfl (fl_move rfl rfl ?_)
          refine ops_gyes rfl rfl rfl hb19 ?_
          refine ops_fl rfl rfl rfl (fl_leq rfl rfl rfl ?_)
          exact hK [_, _] rfl rfl)
      case h2 =>
        intro hb19 hK
        refine ops_gno rfl rfl rfl hb19 rfl rfl ?_
        refine ops_gno rfl rfl rfl hb19 rfl rfl ?_
        exact hK [_, _] rfl
      exact hK [_, _, _, _] rfl rfl)
  case h2 =>
    intro hb12 hK
    refine ops_gno rfl rfl rfl hb12 rfl rfl ?_
    refine ops_gno rfl rfl rfl hb12 rfl rfl ?_
    refine ops_gno rfl rfl rfl hb12 rfl rfl ?_
    refine ops_guard_undef rfl rfl rfl rfl rfl ?_
    refine ops_guard_undef rfl rfl rfl rfl rfl ?_
    refine ops_gno rfl rfl rfl hb12 rfl rfl ?_
    exact hK [_, _, _, _, _, _] rfl
  refine ops_fl rfl rfl rfl (fl_move rfl rfl ?_)
  apply ops_or (yt := 22) (d := 20) 2 rfl rfl rfl (.none rfl) rfl rfl
  case h1 =>
    intro hb28 hK
    have hc := hb28; try simp only [decide_eq_true_eq, decide_eq_false_iff_not, Bool.not_eq_true', Bool.not_eq_false', Bool.not_true, Bool.not_false, Int.not_lt, Int.not_le, Bool.and_eq_true, Bool.or_eq_true, Bool.and_eq_false_iff, Bool.or_eq_false_iff, Bool.false_eq_true, Bool.true_eq_false, not_true_eq_false, not_false_eq_true, decide_true, decide_false, true_and, and_true, false_and, and_false, true_or, or_true, false_or, or_false, Bool.true_and, Bool.false_and, Bool.and_true, Bool.and_false, Bool.true_or, Bool.false_or, Bool.or_true, Bool.or_false, Int.reduceEq, Int.reduceNe, Int.reduceLT, Int.reduceLE, Int.toNat_natCast, toNat_add1] at hc
    all_goals try (first | contradiction | (exfalso; omega))
    all_goals (
      refine ops_gyes rfl rfl rfl hb28 ?_
      refine ops_fl rfl rfl rfl (fl_move rfl rfl ?_)
      refine ops_gyes rfl rfl rfl hb28 ?_
      refine ops_fl rfl rfl rfl (fl_eql rfl rfl rfl ?_)
      exact hK [_, _] rfl rfl)
  case h2 =>
    intro hb28 hK
    refine ops_gno rfl rfl rfl hb28 rfl rfl ?_
    refine ops_gno rfl rfl rfl hb28 rfl rfl ?_
    exact hK [_, _] rfl
  refine ops_fl rfl rfl rfl (fl_assign rfl rfl ?_)
  refine ops_nil ?_
  refine seq_normal ?_
  refine runs_seq ?_
  refine runs_keep [5, 0, 1] rfl ?_
  refine runs_region ?_
  refine ops_fl rfl rfl rfl (fl_move rfl rfl ?_)
  refine ops_fl rfl rfl rfl (fl_move rfl rfl ?_)
  apply ops_or (yt := 43) (d := 25) 18 rfl rfl rfl (.none rfl) rfl rfl
  case h1 =>
    intro hb2 hK
    have hc := hb2; try simp only [decide_eq_true_eq, decide_eq_false_iff_not, Bool.not_eq_true', Bool.not_eq_false', Bool.not_true, Bool.not_false, Int.not_lt, Int.not_le, Bool.and_eq_true, Bool.or_eq_true, Bool.and_eq_false_iff, Bool.or_eq_false_iff, Bool.false_eq_true, Bool.true_eq_false, not_true_eq_false, not_false_eq_true, decide_true, decide_false, true_and, and_true, false_and, and_false, true_or, or_true, false_or, or_false, Bool.true_and, Bool.false_and, Bool.and_true, Bool.and_false, Bool.true_or, Bool.false_or, Bool.or_true, Bool.or_false, Int.reduceEq, Int.reduceNe, Int.reduceLT, Int.reduceLE, Int.toNat_natCast, toNat_add1] at hc
    all_goals try (first | contradiction | (exfalso; omega))
    all_goals (
      refine ops_gyes rfl rfl rfl hb2 ?_
      refine ops_fl rfl rfl rfl (fl_move rfl rfl ?_)
      refine ops_gyes rfl rfl rfl hb2 ?_
      refine ops_fl rfl rfl rfl (fl_not rfl rfl ?_)
      refine ops_gyes rfl rfl rfl hb2 ?_
      refine ops_fl rfl rfl rfl (fl_move rfl rfl ?_)
      apply ops_and (yt := 42) (d := 28) 14 rfl rfl rfl (.yes rfl rfl rfl hb2) rfl rfl
      case h1 =>
        intro hb9 hK
        have hc := hb9; try simp only [decide_eq_true_eq, decide_eq_false_iff_not, Bool.not_eq_true', Bool.not_eq_false', Bool.not_true, Bool.not_false, Int.not_lt, Int.not_le, Bool.and_eq_true, Bool.or_eq_true, Bool.and_eq_false_iff, Bool.or_eq_false_iff, Bool.false_eq_true, Bool.true_eq_false, not_true_eq_false, not_false_eq_true, decide_true, decide_false, true_and, and_true, false_and, and_false, true_or, or_true, false_or, or_false, Bool.true_and, Bool.false_and, Bool.and_true, Bool.and_false, Bool.true_or, Bool.false_or, Bool.or_true, Bool.or_false, Int.reduceEq, Int.reduceNe, Int.reduceLT, Int.reduceLE, Int.toNat_natCast, toNat_add1] at hc
        all_goals try (first | contradiction | (exfalso; omega))
        all_goals (
          refine ops_gyes rfl rfl rfl hb9 ?_
          refine ops_fl rfl rfl rfl (fl_move rfl rfl ?_)
          refine ops_gyes rfl rfl rfl hb9 ?_
          refine ops_fl rfl rfl rfl (fl_geq rfl rfl rfl ?_)
          refine ops_gyes rfl rfl rfl hb9 ?_
          refine ops_fl rfl rfl rfl (fl_move rfl rfl ?_)
          apply ops_and (yt := 33) (d := 31) 2 rfl rfl rfl (.yes rfl rfl rfl hb9) rfl rfl
          case h1 =>
            intro hb15 hK
            have hc := hb15; try simp only [decide_eq_true_eq, decide_eq_false_iff_not, Bool.not_eq_true', Bool.not_eq_false', Bool.not_true, Bool.not_false, Int.not_lt, Int.not_le, Bool.and_eq_true, Bool.or_eq_true, Bool.and_eq_false_iff, Bool.or_eq_false_iff, Bool.false_eq_true, Bool.true_eq_false, not_true_eq_false, not_false_eq_true, decide_true, decide_false, true_and, and_true, false_and, and_false, true_or, or_true, false_or, or_false, Bool.true_and, Bool.false_and, Bool.and_true, Bool.and_false, Bool.true_or, Bool.false_or, Bool.or_true, Bool.or_false, Int.reduceEq, Int.reduceNe, Int.reduceLT, Int.reduceLE, Int.toNat_natCast, toNat_add1] at hc
            all_goals try (first | contradiction | (exfalso; omega))
            all_goals (
              refine ops_gyes rfl rfl rfl hb15 ?_
              refine ops_fl rfl rfl rfl (fl_move rfl rfl ?_)
              refine ops_gyes rfl rfl rfl hb15 ?_
              refine ops_fl rfl rfl rfl (fl_leq rfl rfl rfl ?_)
              exact hK [_, _] rfl rfl)
          case h2 =>
            intro hb15 hK
            refine ops_gno rfl rfl rfl hb15 rfl rfl ?_
            refine ops_gno rfl rfl rfl hb15 rfl rfl ?_
            exact hK [_, _] rfl
          refine ops_gyes rfl rfl rfl hb9 ?_
          refine ops_fl rfl rfl rfl (fl_move rfl rfl ?_)
          apply ops_or (yt := 37) (d := 35) 2 rfl rfl rfl (.yes rfl rfl rfl hb9) rfl rfl
          case h1 =>
            intro hb22 hK
            have hc := hb22; try simp only [decide_eq_true_eq, decide_eq_false_iff_not, Bool.not_eq_true', Bool.not_eq_false', Bool.not_true, Bool.not_false, Int.not_lt, Int.not_le, Bool.and_eq_true, Bool.or_eq_true, Bool.and_eq_false_iff, Bool.or_eq_false_iff, Bool.false_eq_true, Bool.true_eq_false, not_true_eq_false, not_false_eq_true, decide_true, decide_false, true_and, and_true, false_and, and_false, true_or, or_true, false_or, or_false, Bool.true_and, Bool.false_and, Bool.and_true, Bool.and_false, Bool.true_or, Bool.false_or, Bool.or_true, Bool.or_false, Int.reduceEq, Int.reduceNe, Int.reduceLT, Int.reduceLE, Int.toNat_natCast, toNat_add1] at hc
            all_goals try (first | contradiction | (exfalso; omega))
            all_goals (
              refine ops_gyes rfl rfl rfl hb22 ?_
              refine ops_fl rfl rfl rfl (fl_move rfl rfl ?_)
              refine ops_gyes rfl rfl rfl hb22 ?_
              refine ops_fl rfl rfl rfl (fl_eql rfl rfl rfl ?_)
              exact hK [_, _] rfl rfl)
          case h2 =>
            intro hb22 hK
            refine ops_gno rfl rfl rfl hb22 rfl rfl ?_
            refine ops_gno rfl rfl rfl hb22 rfl rfl ?_
            exact hK [_, _] rfl
          refine ops_gyes rfl rfl rfl hb9 ?_
          refine ops_fl rfl rfl rfl (fl_move rfl rfl ?_)
          apply ops_or (yt := 41) (d := 39) 2 rfl rfl rfl (.yes rfl rfl rfl hb9) rfl rfl
          case h1 =>
            intro hb30 hK
            have hc := hb30; try simp only [decide_eq_true_eq, decide_eq_false_iff_not, Bool.not_eq_true', Bool.not_eq_false', Bool.not_true, Bool.not_false, Int.not_lt, Int.not_le, Bool.and_eq_true, Bool.or_eq_true, Bool.and_eq_false_iff, Bool.or_eq_false_iff, Bool.false_eq_true, Bool.true_eq_false, not_true_eq_false, not_false_eq_true, decide_true, decide_false, true_and, and_true, false_and, and_false, true_or, or_true, false_or, or_false, Bool.true_and, Bool.false_and, Bool.and_true, Bool.and_false, Bool.true_or, Bool.false_or, Bool.or_true, Bool.or_false, Int.reduceEq, Int.reduceNe, Int.reduceLT, Int.reduceLE, Int.toNat_natCast, toNat_add1] at hc
            all_goals try (first | contradiction | (exfalso; omega))
            all_goals (
              refine ops_gyes rfl rfl rfl hb30 ?_
              refine ops_fl rfl rfl rfl (fl_move rfl rfl ?_)
              refine ops_gyes rfl rfl rfl hb30 ?_
              refine ops_fl rfl rfl rfl (fl_eql rfl rfl rfl ?_)
              exact hK [_, _] rfl rfl)
          case h2 =>
            intro hb30 hK
            refine ops_gno rfl rfl rfl hb30 rfl rfl ?_
            refine ops_gno rfl rfl rfl hb30 rfl rfl ?_
            exact hK [_, _] rfl
          exact hK [_, _, _, _, _, _, _, _] rfl rfl)
      case h2 =>
        intro hb9 hK
        refine ops_gno rfl rfl rfl hb9 rfl rfl ?_
        refine ops_gno rfl rfl rfl hb9 rfl rfl ?_
        refine ops_gno rfl rfl rfl hb9 rfl rfl ?_
        refine ops_guard_undef rfl rfl rfl rfl rfl ?_
        refine ops_guard_undef rfl rfl rfl rfl rfl ?_
        refine ops_gno rfl rfl rfl hb9 rfl rfl ?_
        refine ops_gno rfl rfl rfl hb9 rfl rfl ?_
        refine ops_guard_undef rfl rfl rfl rfl rfl ?_
        refine ops_guard_undef rfl rfl rfl rfl rfl ?_
        refine ops_gno rfl rfl rfl hb9 rfl rfl ?_
        refine ops_gno rfl rfl rfl hb9 rfl rfl ?_
        refine ops_guard_undef rfl rfl rfl rfl rfl ?_
        refine ops_guard_undef rfl rfl rfl rfl rfl ?_
        refine ops_gno rfl rfl rfl hb9 rfl rfl ?_
        exact hK [_, _, _, _, _, _, _, _, _, _, _, _, _, _] rfl
      exact hK [_, _, _, _] rfl rfl)
  case h2 =>
    intro hb2 hK
    refine ops_gno rfl rfl rfl hb2 rfl rfl ?_
    refine ops_gno rfl rfl rfl hb2 rfl rfl ?_
    refine ops_gno rfl rfl rfl hb2 rfl rfl ?_
    refine ops_guard_undef rfl rfl rfl rfl rfl ?_
    refine ops_guard_undef rfl rfl rfl rfl rfl ?_
    refine ops_guard_undef rfl rfl rfl rfl rfl ?_
    refine ops_guard_undef rfl rfl rfl rfl rfl ?_
    refine ops_guard_undef rfl rfl rfl rfl rfl ?_
    refine ops_guard_undef rfl rfl rfl rfl rfl ?_
    refine ops_guard_undef rfl rfl rfl rfl rfl ?_
    refine ops_guard_undef rfl rfl rfl rfl rfl ?_
    refine ops_guard_undef rfl rfl rfl rfl rfl ?_
    refine ops_guard_undef rfl rfl rfl rfl rfl ?_
    refine ops_guard_undef rfl rfl rfl rfl rfl ?_
    refine ops_guard_undef rfl rfl rfl rfl rfl ?_
    refine ops_guard_undef rfl rfl rfl rfl rfl ?_
    refine ops_guard_undef rfl rfl rfl rfl rfl ?_
    refine ops_gno rfl rfl rfl hb2 rfl rfl ?_
    exact hK [_, _, _, _, _, _, _, _, _, _, _, _, _, _, _, _, _, _] rfl
  refine ops_fl rfl rfl rfl (fl_assign rfl rfl ?_)
  refine ops_nil ?_
  refine seq_normal ?_
  refine runs_ret ?_
  refine fin_ret ?_
  refine fin_d1 rfl rfl ?_
  congr 2
  rw [Bool.eq_iff_iff]
  cases first <;> simp only [nameB, Bool.or_eq_true, Bool.and_eq_true, decide_eq_true_eq, Bool.not_eq_true', Bool.not_true, Bool.not_false, Bool.false_eq_true, Bool.true_eq_false, true_and, false_and, or_false, reduceCtorEq] <;> constructor <;> intro h <;> omega
theorem isName_spec (t : ByteArray) : TriD Tryd.prog gl 42 [.v (.string t)] (· = .v (.bool (isNameB t))) := by
  refine triD_of_runs Tryd.func42 rfl Tryd.ntmps42 (rs := [.tmp 2]) rfl rfl rfl ?_
  refine runs_seq ?_
  refine runs_region ?_
  refine ops_fl rfl rfl rfl (fl_assign rfl rfl ?_)
  refine ops_nil ?_
  refine seq_normal ?_
  refine runs_seq ?_
  refine runs_region ?_
  refine ops_fl rfl rfl rfl (fl_move rfl rfl ?_)
  refine ops_fl rfl rfl rfl (fl_sneq rfl rfl rfl ?_)
  refine ops_fl rfl rfl rfl (fl_move rfl rfl ?_)
  apply ops_and (yt := 8) (d := 5) 3 rfl rfl rfl (.none rfl) rfl rfl
  case h1 =>
    intro hb5 hK
    have hc := hb5; try simp only [decide_eq_true_eq, decide_eq_false_iff_not, Bool.not_eq_true', Bool.not_eq_false', Bool.not_true, Bool.not_false, Int.not_lt, Int.not_le, Bool.and_eq_true, Bool.or_eq_true, Bool.and_eq_false_iff, Bool.or_eq_false_iff, Bool.false_eq_true, Bool.true_eq_false, not_true_eq_false, not_false_eq_true, decide_true, decide_false, true_and, and_true, false_and, and_false, true_or, or_true, false_or, or_false, Bool.true_and, Bool.false_and, Bool.and_true, Bool.and_false, Bool.true_or, Bool.false_or, Bool.or_true, Bool.or_false, Int.reduceEq, Int.reduceNe, Int.reduceLT, Int.reduceLE, Int.toNat_natCast, toNat_add1] at hc
    all_goals try (first | contradiction | (exfalso; omega))
    all_goals (
      refine ops_gyes rfl rfl rfl hb5 ?_
      refine ops_fl rfl rfl rfl (fl_move rfl rfl ?_)
      have hpos := size_pos_of_ne hc
      refine ops_gyes rfl rfl rfl hb5 ?_
      refine ops_fl rfl rfl rfl (fl_byte ut9 rfl rfl rfl (by omega) ?_)
      refine ops_gyes rfl rfl rfl hb5 ?_
      refine ops_cons (T := fun _ => False) rfl (op_call ca55 rfl rfl rfl rfl (nameByte_spec (byteAt t (0 : Int).toNat) true) (.cons (by first | exact .refl _ | exact .toD rfl | exact .nilD | exact .dle rfl (by repeat' (first | exact DLe.refl _ | exact DLe.nil | exact DLeL.nil | exact DLeLL.nil | apply DLe.agg | apply DLe.tup | apply DLe.sl | apply DLe.cp | apply DLeL.cons | apply DLeLL.cons))) (.cons (by first | exact .refl _ | exact .toD rfl | exact .nilD | exact .dle rfl (by repeat' (first | exact DLe.refl _ | exact DLe.nil | exact DLeL.nil | exact DLeLL.nil | apply DLe.agg | apply DLe.tup | apply DLe.sl | apply DLe.cp | apply DLeL.cons | apply DLeLL.cons))) .nil)) (fun d hd => ?_))
      obtain rfl := hd
      exact hK [_, _, _] rfl rfl)
  case h2 =>
    intro hb5 hK
    refine ops_gno rfl rfl rfl hb5 rfl rfl ?_
    refine ops_gno rfl rfl rfl hb5 rfl rfl ?_
    refine ops_gno rfl rfl rfl hb5 rfl rfl ?_
    exact hK [_, _, _] rfl
  refine ops_fl rfl rfl rfl (fl_assign rfl rfl ?_)
  refine ops_nil ?_
  refine seq_normal ?_
  refine runs_ret ?_
  refine fin_ret ?_
  refine fin_d1 rfl rfl ?_
  congr 2
  unfold isNameB
  rw [show (0 : Int).toNat = 0 from rfl]
  have e : (⟨#[]⟩ : ByteArray) = .empty := rfl
  rw [e]
  simp

theorem ws_yes {s : ByteArray} {i : Nat} (h : byteAt s i = 32 ∨ byteAt s i = 9 ∨ byteAt s i = 10) : wsB (byteAt s i) = true := by simpa [wsB] using h
theorem ws_no {s : ByteArray} {i : Nat} (h : ¬ (byteAt s i = 32 ∨ byteAt s i = 9 ∨ byteAt s i = 10)) : ¬ (i < s.size ∧ wsB (byteAt s i) = true) := by
  rintro ⟨_, h2⟩
  exact h (by simpa [wsB] using h2)

theorem token_spec (s : ByteArray) (p : Nat) (c a : Int) (hs : s.size ≤ 1099511627776) (hp : p ≤ s.size) :
    Tri Tryd.prog gl 41 [.cells [.d (.v (.string s)), .d (.v (.int .i64 p)), .d (.v (.int .i64 c)), .d (.v (.int .i64 a))] 53] [.blk 0 0]
      fun out ob' => out = .ret (.d (.tup [.v (.string (tokR s p).1), .v (.int .i64 (tokR s p).2.1), .v (.bool (tokR s p).2.2)])) ∧ ob' = [.cells [.d (.v (.string s)), .d (.v (.int .i64 p)), .d (.v (.int .i64 c)), .d (.v (.int .i64 a))] 53] := by
  refine triS_of_runs Tryd.func41 rfl Tryd.ntmps41 (rs := [.tmp 2, .tmp 3, .tmp 4]) rfl rfl rfl 1 rfl ?_
  refine runs_seq ?_
  refine runs_region ?_
  refine ops_fl rfl rfl rfl (fl_assign rfl rfl ?_)
  refine ops_fl rfl rfl rfl (fl_assign rfl rfl ?_)
  refine ops_fl rfl rfl rfl (fl_assign rfl rfl ?_)
  refine ops_nil ?_
  refine seq_normal ?_
  refine runs_seq ?_
  refine runs_region ?_
  refine ops_fl rfl rfl rfl (fl_move rfl rfl ?_)
  first
  | refine ops_fl rfl rfl rfl (fl_nil_blk rfl rfl ?_)
  | refine ops_fl rfl rfl rfl (fl_nil_cp rfl rfl ?_)
  first
  | refine ops_fl rfl rfl rfl (fl_field_blk ti53 rfl rfl rfl rfl ?_)
  | refine ops_fl rfl rfl rfl (fl_field_cp ti53 rfl rfl rfl rfl rfl ?_)
  first
  | refine ops_fl rfl rfl rfl (fl_load_blk ti3 rfl rfl rfl rfl rfl rfl rfl ?_)
  | refine ops_fl rfl rfl rfl (fl_load_cp ti3 rfl rfl rfl rfl rfl rfl ?_)
  refine ops_fl rfl rfl rfl (fl_assign rfl rfl ?_)
  refine ops_nil ?_
  refine seq_normal ?_
  refine runs_seq ?_
  refine runs_block ?_
  refine runs_keep [5, 0] rfl ?_
  apply runs_loop_c (ι := Nat) (fun i => [(5, int i)]) [0] (fun i => i ≤ s.size ∧ spanB wsB s p = spanB wsB s i) (fun i => s.size - i) (p)
  case hk => exact rfl
  case hI =>
    exact ⟨hp, rfl⟩
  case hm =>
    refine meets_of rfl rfl rfl ?_ (.cons rfl (by first | exact .refl _ | exact .toD rfl | exact .nilD | exact Fit.of_eq rfl | exact .dle rfl (by repeat' (first | exact DLe.refl _ | exact DLe.nil | exact DLeL.nil | exact DLeLL.nil | apply DLe.agg | apply DLe.tup | apply DLe.sl | apply DLe.cp | apply DLeL.cons | apply DLeLL.cons))) (.cons rfl (by first | exact .refl _ | exact .toD rfl | exact .nilD | exact Fit.of_eq rfl | exact .dle rfl (by repeat' (first | exact DLe.refl _ | exact DLe.nil | exact DLeL.nil | exact DLeLL.nil | apply DLe.agg | apply DLe.tup | apply DLe.sl | apply DLe.cp | apply DLeL.cons | apply DLeLL.cons))) .nil))
    repeat (first | exact .nil | refine .cons rfl (.cells rfl (FitL.rfl _)) ?_ | refine .cons rfl (.cells rfl (by repeat (first | exact .nil | refine .cons (by first | exact .refl _ | exact .toD rfl | exact .nil rfl | exact .nilD | exact Fit.of_eq rfl) ?_))) ?_ | refine .cons rfl .row ?_ | refine .cons rfl .mapI ?_ | refine .cons rfl .nnrow ?_ | refine .cons rfl .nrow ?_ | refine .cons rfl .dead ?_)
  case h =>
    rintro i hinv
    try dsimp only at hinv
    refine runs_keep [5, 0] rfl ?_
    refine runs_seq ?_
    refine runs_seq ?_
    refine runs_region ?_
    refine ops_fl rfl rfl rfl (fl_move rfl rfl ?_)
    refine ops_fl rfl rfl rfl (fl_move rfl rfl ?_)
    first
    | refine ops_fl rfl rfl rfl (fl_nil_blk rfl rfl ?_)
    | refine ops_fl rfl rfl rfl (fl_nil_cp rfl rfl ?_)
    first
    | refine ops_fl rfl rfl rfl (fl_field_blk ti53 rfl rfl rfl rfl ?_)
    | refine ops_fl rfl rfl rfl (fl_field_cp ti53 rfl rfl rfl rfl rfl ?_)
    first
    | refine ops_fl rfl rfl rfl (fl_load_blk ti9 rfl rfl rfl rfl rfl rfl rfl ?_)
    | refine ops_fl rfl rfl rfl (fl_load_cp ti9 rfl rfl rfl rfl rfl rfl ?_)
    refine ops_fl rfl rfl rfl (fl_len_s ut9 rfl rfl ?_)
    refine ops_fl rfl rfl rfl (fl_lss rfl rfl rfl ?_)
    refine ops_fl rfl rfl rfl (fl_move rfl rfl ?_)
    apply ops_and (yt := 46) (d := 21) 25 rfl rfl rfl (.none rfl) rfl rfl
    case h1 =>
      intro hb15 hK
      have hc := hb15; try simp only [decide_eq_true_eq, decide_eq_false_iff_not, Bool.not_eq_true', Bool.not_eq_false', Bool.not_true, Bool.not_false, Int.not_lt, Int.not_le, Bool.and_eq_true, Bool.or_eq_true, Bool.and_eq_false_iff, Bool.or_eq_false_iff, Bool.false_eq_true, Bool.true_eq_false, not_true_eq_false, not_false_eq_true, decide_true, decide_false, true_and, and_true, false_and, and_false, true_or, or_true, false_or, or_false, Bool.true_and, Bool.false_and, Bool.and_true, Bool.and_false, Bool.true_or, Bool.false_or, Bool.or_true, Bool.or_false, Int.reduceEq, Int.reduceNe, Int.reduceLT, Int.reduceLE, Int.toNat_natCast, toNat_add1] at hc
      all_goals try (first | contradiction | (exfalso; omega))
      all_goals (
        refine ops_gyes rfl rfl rfl hb15 ?_
        refine ops_fl rfl rfl rfl (fl_move rfl rfl ?_)
        refine ops_gyes rfl rfl rfl hb15 ?_
        first
        | refine ops_fl rfl rfl rfl (fl_nil_blk rfl rfl ?_)
        | refine ops_fl rfl rfl rfl (fl_nil_cp rfl rfl ?_)
        refine ops_gyes rfl rfl rfl hb15 ?_
        first
        | refine ops_fl rfl rfl rfl (fl_field_blk ti53 rfl rfl rfl rfl ?_)
        | refine ops_fl rfl rfl rfl (fl_field_cp ti53 rfl rfl rfl rfl rfl ?_)
        refine ops_gyes rfl rfl rfl hb15 ?_
        first
        | refine ops_fl rfl rfl rfl (fl_load_blk ti9 rfl rfl rfl rfl rfl rfl rfl ?_)
        | refine ops_fl rfl rfl rfl (fl_load_cp ti9 rfl rfl rfl rfl rfl rfl ?_)
        refine ops_gyes rfl rfl rfl hb15 ?_
        refine ops_fl rfl rfl rfl (fl_move rfl rfl ?_)
        refine ops_gyes rfl rfl rfl hb15 ?_
        refine ops_fl rfl rfl rfl (fl_byte ut9 rfl rfl rfl (by omega) ?_)
        refine ops_gyes rfl rfl rfl hb15 ?_
        refine ops_fl rfl rfl rfl (fl_eql rfl rfl rfl ?_)
        refine ops_gyes rfl rfl rfl hb15 ?_
        refine ops_fl rfl rfl rfl (fl_move rfl rfl ?_)
        apply ops_or (yt := 36) (d := 29) 7 rfl rfl rfl (.yes rfl rfl rfl hb15) rfl rfl
        case h1 =>
          intro hb30 hK
          have hc := hb30; try simp only [decide_eq_true_eq, decide_eq_false_iff_not, Bool.not_eq_true', Bool.not_eq_false', Bool.not_true, Bool.not_false, Int.not_lt, Int.not_le, Bool.and_eq_true, Bool.or_eq_true, Bool.and_eq_false_iff, Bool.or_eq_false_iff, Bool.false_eq_true, Bool.true_eq_false, not_true_eq_false, not_false_eq_true, decide_true, decide_false, true_and, and_true, false_and, and_false, true_or, or_true, false_or, or_false, Bool.true_and, Bool.false_and, Bool.and_true, Bool.and_false, Bool.true_or, Bool.false_or, Bool.or_true, Bool.or_false, Int.reduceEq, Int.reduceNe, Int.reduceLT, Int.reduceLE, Int.toNat_natCast, toNat_add1] at hc
          all_goals try (first | contradiction | (exfalso; omega))
          all_goals (
            refine ops_gyes rfl rfl rfl hb30 ?_
            refine ops_fl rfl rfl rfl (fl_move rfl rfl ?_)
            refine ops_gyes rfl rfl rfl hb30 ?_
            first
            | refine ops_fl rfl rfl rfl (fl_nil_blk rfl rfl ?_)
            | refine ops_fl rfl rfl rfl (fl_nil_cp rfl rfl ?_)
            refine ops_gyes rfl rfl rfl hb30 ?_
            first
            | refine ops_fl rfl rfl rfl (fl_field_blk ti53 rfl rfl rfl rfl ?_)
            | refine ops_fl rfl rfl rfl (fl_field_cp ti53 rfl rfl rfl rfl rfl ?_)
            refine ops_gyes rfl rfl rfl hb30 ?_
            first
            | refine ops_fl rfl rfl rfl (fl_load_blk ti9 rfl rfl rfl rfl rfl rfl rfl ?_)
            | refine ops_fl rfl rfl rfl (fl_load_cp ti9 rfl rfl rfl rfl rfl rfl ?_)
            refine ops_gyes rfl rfl rfl hb30 ?_
            refine ops_fl rfl rfl rfl (fl_move rfl rfl ?_)
            refine ops_gyes rfl rfl rfl hb30 ?_
            refine ops_fl rfl rfl rfl (fl_byte ut9 rfl rfl rfl (by omega) ?_)
            refine ops_gyes rfl rfl rfl hb30 ?_
            refine ops_fl rfl rfl rfl (fl_eql rfl rfl rfl ?_)
            exact hK [_, _, _, _, _, _, _] rfl rfl)
        case h2 =>
          intro hb30 hK
          refine ops_gno rfl rfl rfl hb30 rfl rfl ?_
          refine ops_gno rfl rfl rfl hb30 rfl rfl ?_
          refine ops_gno rfl rfl rfl hb30 rfl rfl ?_
          refine ops_gno rfl rfl rfl hb30 rfl rfl ?_
          refine ops_gno rfl rfl rfl hb30 rfl rfl ?_
          refine ops_gno rfl rfl rfl hb30 rfl rfl ?_
          refine ops_gno rfl rfl rfl hb30 rfl rfl ?_
          exact hK [_, _, _, _, _, _, _] rfl
        refine ops_gyes rfl rfl rfl hb15 ?_
        refine ops_fl rfl rfl rfl (fl_move rfl rfl ?_)
        apply ops_or (yt := 45) (d := 38) 7 rfl rfl rfl (.yes rfl rfl rfl hb15) rfl rfl
        case h1 =>
          intro hb48 hK
          have hc := hb48; try simp only [decide_eq_true_eq, decide_eq_false_iff_not, Bool.not_eq_true', Bool.not_eq_false', Bool.not_true, Bool.not_false, Int.not_lt, Int.not_le, Bool.and_eq_true, Bool.or_eq_true, Bool.and_eq_false_iff, Bool.or_eq_false_iff, Bool.false_eq_true, Bool.true_eq_false, not_true_eq_false, not_false_eq_true, decide_true, decide_false, true_and, and_true, false_and, and_false, true_or, or_true, false_or, or_false, Bool.true_and, Bool.false_and, Bool.and_true, Bool.and_false, Bool.true_or, Bool.false_or, Bool.or_true, Bool.or_false, Int.reduceEq, Int.reduceNe, Int.reduceLT, Int.reduceLE, Int.toNat_natCast, toNat_add1] at hc
          all_goals try (first | contradiction | (exfalso; omega))
          all_goals (
            refine ops_gyes rfl rfl rfl hb48 ?_
            refine ops_fl rfl rfl rfl (fl_move rfl rfl ?_)
            refine ops_gyes rfl rfl rfl hb48 ?_
            first
            | refine ops_fl rfl rfl rfl (fl_nil_blk rfl rfl ?_)
            | refine ops_fl rfl rfl rfl (fl_nil_cp rfl rfl ?_)
            refine ops_gyes rfl rfl rfl hb48 ?_
            first
            | refine ops_fl rfl rfl rfl (fl_field_blk ti53 rfl rfl rfl rfl ?_)
            | refine ops_fl rfl rfl rfl (fl_field_cp ti53 rfl rfl rfl rfl rfl ?_)
            refine ops_gyes rfl rfl rfl hb48 ?_
            first
            | refine ops_fl rfl rfl rfl (fl_load_blk ti9 rfl rfl rfl rfl rfl rfl rfl ?_)
            | refine ops_fl rfl rfl rfl (fl_load_cp ti9 rfl rfl rfl rfl rfl rfl ?_)
            refine ops_gyes rfl rfl rfl hb48 ?_
            refine ops_fl rfl rfl rfl (fl_move rfl rfl ?_)
            refine ops_gyes rfl rfl rfl hb48 ?_
            refine ops_fl rfl rfl rfl (fl_byte ut9 rfl rfl rfl (by omega) ?_)
            refine ops_gyes rfl rfl rfl hb48 ?_
            refine ops_fl rfl rfl rfl (fl_eql rfl rfl rfl ?_)
            exact hK [_, _, _, _, _, _, _] rfl rfl)
        case h2 =>
          intro hb48 hK
          refine ops_gno rfl rfl rfl hb48 rfl rfl ?_
          refine ops_gno rfl rfl rfl hb48 rfl rfl ?_
          refine ops_gno rfl rfl rfl hb48 rfl rfl ?_
          refine ops_gno rfl rfl rfl hb48 rfl rfl ?_
          refine ops_gno rfl rfl rfl hb48 rfl rfl ?_
          refine ops_gno rfl rfl rfl hb48 rfl rfl ?_
          refine ops_gno rfl rfl rfl hb48 rfl rfl ?_
          exact hK [_, _, _, _, _, _, _] rfl
        exact hK [_, _, _, _, _, _, _, _, _, _, _] rfl rfl)
    case h2 =>
      intro hb15 hK
      refine ops_gno rfl rfl rfl hb15 rfl rfl ?_
      refine ops_gno rfl rfl rfl hb15 rfl rfl ?_
      refine ops_gno rfl rfl rfl hb15 rfl rfl ?_
      refine ops_gno rfl rfl rfl hb15 rfl rfl ?_
      refine ops_gno rfl rfl rfl hb15 rfl rfl ?_
      refine ops_gno rfl rfl rfl hb15 rfl rfl ?_
      refine ops_gno rfl rfl rfl hb15 rfl rfl ?_
      refine ops_gno rfl rfl rfl hb15 rfl rfl ?_
      refine ops_guard_undef rfl rfl rfl rfl rfl ?_
      refine ops_guard_undef rfl rfl rfl rfl rfl ?_
      refine ops_guard_undef rfl rfl rfl rfl rfl ?_
      refine ops_guard_undef rfl rfl rfl rfl rfl ?_
      refine ops_guard_undef rfl rfl rfl rfl rfl ?_
      refine ops_guard_undef rfl rfl rfl rfl rfl ?_
      refine ops_guard_undef rfl rfl rfl rfl rfl ?_
      refine ops_gno rfl rfl rfl hb15 rfl rfl ?_
      refine ops_gno rfl rfl rfl hb15 rfl rfl ?_
      refine ops_guard_undef rfl rfl rfl rfl rfl ?_
      refine ops_guard_undef rfl rfl rfl rfl rfl ?_
      refine ops_guard_undef rfl rfl rfl rfl rfl ?_
      refine ops_guard_undef rfl rfl rfl rfl rfl ?_
      refine ops_guard_undef rfl rfl rfl rfl rfl ?_
      refine ops_guard_undef rfl rfl rfl rfl rfl ?_
      refine ops_guard_undef rfl rfl rfl rfl rfl ?_
      refine ops_gno rfl rfl rfl hb15 rfl rfl ?_
      exact hK [_, _, _, _, _, _, _, _, _, _, _, _, _, _, _, _, _, _, _, _, _, _, _, _, _] rfl
    refine ops_nil ?_
    refine seq_normal ?_
    refine runs_cond rfl (fun h2 => ?_) (fun h2 => ?_)
    · try simp only [decide_eq_true_eq, decide_eq_false_iff_not, Bool.not_eq_true', Bool.not_eq_false', Bool.not_true, Bool.not_false, Int.not_lt, Int.not_le, Bool.and_eq_true, Bool.or_eq_true, Bool.and_eq_false_iff, Bool.or_eq_false_iff, Bool.false_eq_true, Bool.true_eq_false, not_true_eq_false, not_false_eq_true, decide_true, decide_false, true_and, and_true, false_and, and_false, true_or, or_true, false_or, or_false, Bool.true_and, Bool.false_and, Bool.and_true, Bool.and_false, Bool.true_or, Bool.false_or, Bool.or_true, Bool.or_false, Int.reduceEq, Int.reduceNe, Int.reduceLT, Int.reduceLE, Int.toNat_natCast, toNat_add1] at h2
      all_goals try (first | contradiction | (exfalso; omega))
      all_goals (
        refine runs_skip ?_
        refine seq_normal ?_
        refine runs_block ?_
        refine runs_keep [5, 0] rfl ?_
        refine runs_region ?_
        refine ops_fl rfl rfl rfl (fl_move rfl rfl ?_)
        refine ops_fl rfl rfl rfl (fl_add rfl rfl rfl (by omega) ?_)
        refine ops_fl rfl rfl rfl (fl_assign rfl rfl ?_)
        refine ops_nil ?_
        refine inb_normal ?_
        refine seq_back ?_
        refine back_i (i + 1) rfl ?_ ?_
        · exact ⟨⟨by omega, hinv.2.trans (spanB_step (by omega) (ws_yes (by omega)))⟩, by omega⟩
        · refine meets_of rfl rfl rfl ?_ (.cons rfl (by first | exact .refl _ | exact .toD rfl | exact .nilD | exact Fit.of_eq rfl | exact .dle rfl (by repeat' (first | exact DLe.refl _ | exact DLe.nil | exact DLeL.nil | exact DLeLL.nil | apply DLe.agg | apply DLe.tup | apply DLe.sl | apply DLe.cp | apply DLeL.cons | apply DLeLL.cons))) (.cons rfl (by first | exact .refl _ | exact .toD rfl | exact .nilD | exact Fit.of_eq rfl | exact .dle rfl (by repeat' (first | exact DLe.refl _ | exact DLe.nil | exact DLeL.nil | exact DLeLL.nil | apply DLe.agg | apply DLe.tup | apply DLe.sl | apply DLe.cp | apply DLeL.cons | apply DLeLL.cons))) .nil))
          repeat (first | exact .nil | refine .cons rfl (.cells rfl (FitL.rfl _)) ?_ | refine .cons rfl (.cells rfl (by repeat (first | exact .nil | refine .cons (by first | exact .refl _ | exact .toD rfl | exact .nil rfl | exact .nilD | exact Fit.of_eq rfl) ?_))) ?_ | refine .cons rfl .row ?_ | refine .cons rfl .mapI ?_ | refine .cons rfl .nnrow ?_ | refine .cons rfl .nrow ?_ | refine .cons rfl .dead ?_)
      )
    · try simp only [decide_eq_true_eq, decide_eq_false_iff_not, Bool.not_eq_true', Bool.not_eq_false', Bool.not_true, Bool.not_false, Int.not_lt, Int.not_le, Bool.and_eq_true, Bool.or_eq_true, Bool.and_eq_false_iff, Bool.or_eq_false_iff, Bool.false_eq_true, Bool.true_eq_false, not_true_eq_false, not_false_eq_true, decide_true, decide_false, true_and, and_true, false_and, and_false, true_or, or_true, false_or, or_false, Bool.true_and, Bool.false_and, Bool.and_true, Bool.and_false, Bool.true_or, Bool.false_or, Bool.or_true, Bool.or_false, Int.reduceEq, Int.reduceNe, Int.reduceLT, Int.reduceLE, Int.toNat_natCast, toNat_add1] at h2
      all_goals try (first | contradiction | (exfalso; omega))
      all_goals (
        refine runs_exit ?_
        refine seq_exit ?_
        refine seq_exit ?_
        refine inb_exit ?_
        refine seq_normal ?_
        refine runs_seq ?_
        refine runs_seq ?_
        refine runs_keep [5, 0] rfl ?_
        refine runs_region ?_
        refine ops_fl rfl rfl rfl (fl_move rfl rfl ?_)
        refine ops_fl rfl rfl rfl (fl_move rfl rfl ?_)
        first
        | refine ops_fl rfl rfl rfl (fl_nil_blk rfl rfl ?_)
        | refine ops_fl rfl rfl rfl (fl_nil_cp rfl rfl ?_)
        first
        | refine ops_fl rfl rfl rfl (fl_field_blk ti53 rfl rfl rfl rfl ?_)
        | refine ops_fl rfl rfl rfl (fl_field_cp ti53 rfl rfl rfl rfl rfl ?_)
        first
        | refine ops_fl rfl rfl rfl (fl_load_blk ti9 rfl rfl rfl rfl rfl rfl rfl ?_)
        | refine ops_fl rfl rfl rfl (fl_load_cp ti9 rfl rfl rfl rfl rfl rfl ?_)
        refine ops_fl rfl rfl rfl (fl_len_s ut9 rfl rfl ?_)
        refine ops_fl rfl rfl rfl (fl_eql rfl rfl rfl ?_)
        refine ops_nil ?_
        refine seq_normal ?_
        refine runs_cond rfl (fun h4 => ?_) (fun h4 => ?_)
        · try simp only [decide_eq_true_eq, decide_eq_false_iff_not, Bool.not_eq_true', Bool.not_eq_false', Bool.not_true, Bool.not_false, Int.not_lt, Int.not_le, Bool.and_eq_true, Bool.or_eq_true, Bool.and_eq_false_iff, Bool.or_eq_false_iff, Bool.false_eq_true, Bool.true_eq_false, not_true_eq_false, not_false_eq_true, decide_true, decide_false, true_and, and_true, false_and, and_false, true_or, or_true, false_or, or_false, Bool.true_and, Bool.false_and, Bool.and_true, Bool.and_false, Bool.true_or, Bool.false_or, Bool.or_true, Bool.or_false, Int.reduceEq, Int.reduceNe, Int.reduceLT, Int.reduceLE, Int.toNat_natCast, toNat_add1] at h4
          all_goals try (first | contradiction | (exfalso; omega))
          all_goals (
            refine runs_seq ?_
            refine runs_keep [5] rfl ?_
            refine runs_region ?_
            refine ops_fl rfl rfl rfl (fl_move rfl rfl ?_)
            refine ops_fl rfl rfl rfl (fl_assign rfl rfl ?_)
            refine ops_fl rfl rfl rfl (fl_assign rfl rfl ?_)
            refine ops_fl rfl rfl rfl (fl_assign rfl rfl ?_)
            refine ops_nil ?_
            refine seq_normal ?_
            refine runs_ret ?_
            refine seq_ret ?_
            refine fin_ret ?_
            refine fin_od ⟨_, _, rfl, rfl, ⟨_, _, rfl, rfl, ⟨_, _, rfl, rfl, rfl⟩⟩⟩ rfl ([0]) ([.cells [.d (.v (.string s)), .d (.v (.int .i64 p)), .d (.v (.int .i64 c)), .d (.v (.int .i64 a))] 53]) rfl rfl rfl ?_ ?_
            · repeat (first | exact .nil | refine .cons rfl (.cells rfl (FitL.rfl _)) ?_ | refine .cons rfl .row ?_ | refine .cons rfl .mapI ?_ | refine .cons rfl .nnrow ?_ | refine .cons rfl .nrow ?_ | refine .cons rfl .dead ?_ | refine .cons rfl (.cells rfl ?_) ?_ | refine .cons (by first | exact .refl _ | exact .toD rfl | exact .nilD) ?_)
            · rw [tok_end hinv.2 (by omega)]; exact ⟨rfl, rfl⟩
          )
        · try simp only [decide_eq_true_eq, decide_eq_false_iff_not, Bool.not_eq_true', Bool.not_eq_false', Bool.not_true, Bool.not_false, Int.not_lt, Int.not_le, Bool.and_eq_true, Bool.or_eq_true, Bool.and_eq_false_iff, Bool.or_eq_false_iff, Bool.false_eq_true, Bool.true_eq_false, not_true_eq_false, not_false_eq_true, decide_true, decide_false, true_and, and_true, false_and, and_false, true_or, or_true, false_or, or_false, Bool.true_and, Bool.false_and, Bool.and_true, Bool.and_false, Bool.true_or, Bool.false_or, Bool.or_true, Bool.or_false, Int.reduceEq, Int.reduceNe, Int.reduceLT, Int.reduceLE, Int.toNat_natCast, toNat_add1] at h4
          all_goals try (first | contradiction | (exfalso; omega))
          all_goals (
            refine runs_skip ?_
            refine seq_normal ?_
            refine runs_seq ?_
            refine runs_keep [5, 0] rfl ?_
            have hsp := hinv.2.trans (spanB_end (by rintro ⟨h8, h9⟩; have h10 : byteAt s i = 32 ∨ byteAt s i = 9 ∨ byteAt s i = 10 := (by simpa [wsB] using h9); omega))
            refine runs_region ?_
            refine ops_fl rfl rfl rfl (fl_move rfl rfl ?_)
            refine ops_fl rfl rfl rfl (fl_add rfl rfl rfl (by omega) ?_)
            refine ops_fl rfl rfl rfl (fl_assign rfl rfl ?_)
            refine ops_nil ?_
            refine seq_normal ?_
            refine runs_seq ?_
            refine runs_region ?_
            refine ops_fl rfl rfl rfl (fl_move rfl rfl ?_)
            first
            | refine ops_fl rfl rfl rfl (fl_nil_blk rfl rfl ?_)
            | refine ops_fl rfl rfl rfl (fl_nil_cp rfl rfl ?_)
            first
            | refine ops_fl rfl rfl rfl (fl_field_blk ti53 rfl rfl rfl rfl ?_)
            | refine ops_fl rfl rfl rfl (fl_field_cp ti53 rfl rfl rfl rfl rfl ?_)
            first
            | refine ops_fl rfl rfl rfl (fl_load_blk ti9 rfl rfl rfl rfl rfl rfl rfl ?_)
            | refine ops_fl rfl rfl rfl (fl_load_cp ti9 rfl rfl rfl rfl rfl rfl ?_)
            refine ops_fl rfl rfl rfl (fl_move rfl rfl ?_)
            refine ops_fl rfl rfl rfl (fl_byte ut9 rfl rfl rfl (by omega) ?_)
            refine ops_fl rfl rfl rfl (fl_assign rfl rfl ?_)
            refine ops_nil ?_
            refine seq_normal ?_
            refine runs_seq ?_
            refine runs_keep [7, 6, 5, 0] rfl ?_
            refine runs_region ?_
            refine ops_fl rfl rfl rfl (fl_move rfl rfl ?_)
            refine ops_cons (T := fun _ => False) rfl (op_call ca55 rfl rfl rfl rfl (nameByte_spec (byteAt s i) true) (.cons (by first | exact .refl _ | exact .toD rfl | exact .nilD | exact .dle rfl (by repeat' (first | exact DLe.refl _ | exact DLe.nil | exact DLeL.nil | exact DLeLL.nil | apply DLe.agg | apply DLe.tup | apply DLe.sl | apply DLe.cp | apply DLeL.cons | apply DLeLL.cons))) (.cons (by first | exact .refl _ | exact .toD rfl | exact .nilD | exact .dle rfl (by repeat' (first | exact DLe.refl _ | exact DLe.nil | exact DLeL.nil | exact DLeLL.nil | apply DLe.agg | apply DLe.tup | apply DLe.sl | apply DLe.cp | apply DLeL.cons | apply DLeLL.cons))) .nil)) (fun d hd => ?_))
            obtain rfl := hd
            refine ops_fl rfl rfl rfl (fl_assign rfl rfl ?_)
            refine ops_nil ?_
            refine seq_normal ?_
            refine runs_seq ?_
            refine runs_block ?_
            refine runs_seq ?_
            refine runs_region ?_
            refine ops_fl rfl rfl rfl (fl_move rfl rfl ?_)
            refine ops_fl rfl rfl rfl (fl_eql rfl rfl rfl ?_)
            refine ops_fl rfl rfl rfl (fl_move rfl rfl ?_)
            apply ops_or (yt := 74) (d := 72) 2 rfl rfl rfl (.none rfl) rfl rfl
            case h1 =>
              intro hb4 hK
              have hc := hb4; try simp only [decide_eq_true_eq, decide_eq_false_iff_not, Bool.not_eq_true', Bool.not_eq_false', Bool.not_true, Bool.not_false, Int.not_lt, Int.not_le, Bool.and_eq_true, Bool.or_eq_true, Bool.and_eq_false_iff, Bool.or_eq_false_iff, Bool.false_eq_true, Bool.true_eq_false, not_true_eq_false, not_false_eq_true, decide_true, decide_false, true_and, and_true, false_and, and_false, true_or, or_true, false_or, or_false, Bool.true_and, Bool.false_and, Bool.and_true, Bool.and_false, Bool.true_or, Bool.false_or, Bool.or_true, Bool.or_false, Int.reduceEq, Int.reduceNe, Int.reduceLT, Int.reduceLE, Int.toNat_natCast, toNat_add1] at hc
              all_goals try (first | contradiction | (exfalso; omega))
              all_goals (
                refine ops_gyes rfl rfl rfl hb4 ?_
                refine ops_fl rfl rfl rfl (fl_move rfl rfl ?_)
                refine ops_gyes rfl rfl rfl hb4 ?_
                refine ops_fl rfl rfl rfl (fl_eql rfl rfl rfl ?_)
                exact hK [_, _] rfl rfl)
            case h2 =>
              intro hb4 hK
              refine ops_gno rfl rfl rfl hb4 rfl rfl ?_
              refine ops_gno rfl rfl rfl hb4 rfl rfl ?_
              exact hK [_, _] rfl
            refine ops_fl rfl rfl rfl (fl_assign rfl rfl ?_)
            refine ops_nil ?_
            refine seq_normal ?_
            refine runs_cond rfl (fun h10 => ?_) (fun h10 => ?_)
            · try simp only [decide_eq_true_eq, decide_eq_false_iff_not, Bool.not_eq_true', Bool.not_eq_false', Bool.not_true, Bool.not_false, Int.not_lt, Int.not_le, Bool.and_eq_true, Bool.or_eq_true, Bool.and_eq_false_iff, Bool.or_eq_false_iff, Bool.false_eq_true, Bool.true_eq_false, not_true_eq_false, not_false_eq_true, decide_true, decide_false, true_and, and_true, false_and, and_false, true_or, or_true, false_or, or_false, Bool.true_and, Bool.false_and, Bool.and_true, Bool.and_false, Bool.true_or, Bool.false_or, Bool.or_true, Bool.or_false, Int.reduceEq, Int.reduceNe, Int.reduceLT, Int.reduceLE, Int.toNat_natCast, toNat_add1] at h10
              all_goals try (first | contradiction | (exfalso; omega))
              all_goals (
                refine runs_skip ?_
                refine inb_normal ?_
                refine seq_normal ?_
                refine runs_seq ?_
                refine runs_keep [6, 5, 0] rfl ?_
                refine runs_region ?_
                refine ops_fl rfl rfl rfl (fl_move rfl rfl ?_)
                first
                | refine ops_fl rfl rfl rfl (fl_nil_blk rfl rfl ?_)
                | refine ops_fl rfl rfl rfl (fl_nil_cp rfl rfl ?_)
                first
                | refine ops_fl rfl rfl rfl (fl_field_blk ti53 rfl rfl rfl rfl ?_)
                | refine ops_fl rfl rfl rfl (fl_field_cp ti53 rfl rfl rfl rfl rfl ?_)
                first
                | refine ops_fl rfl rfl rfl (fl_load_blk ti9 rfl rfl rfl rfl rfl rfl rfl ?_)
                | refine ops_fl rfl rfl rfl (fl_load_cp ti9 rfl rfl rfl rfl rfl rfl ?_)
                refine ops_fl rfl rfl rfl (fl_move rfl rfl ?_)
                refine ops_fl rfl rfl rfl (fl_move rfl rfl ?_)
                refine ops_fl rfl rfl rfl (fl_sub_lh ut9 rfl rfl rfl rfl (by omega) ?_)
                refine ops_fl rfl rfl rfl (fl_move rfl rfl ?_)
                refine ops_fl rfl rfl rfl (fl_assign rfl rfl ?_)
                refine ops_fl rfl rfl rfl (fl_assign rfl rfl ?_)
                refine ops_fl rfl rfl rfl (fl_assign rfl rfl ?_)
                refine ops_nil ?_
                refine seq_normal ?_
                refine runs_ret ?_
                refine fin_ret ?_
                refine fin_od ⟨_, _, rfl, rfl, ⟨_, _, rfl, rfl, ⟨_, _, rfl, rfl, rfl⟩⟩⟩ rfl ([0]) ([.cells [.d (.v (.string s)), .d (.v (.int .i64 p)), .d (.v (.int .i64 c)), .d (.v (.int .i64 a))] 53]) rfl rfl rfl ?_ ?_
                · repeat (first | exact .nil | refine .cons rfl (.cells rfl (FitL.rfl _)) ?_ | refine .cons rfl .row ?_ | refine .cons rfl .mapI ?_ | refine .cons rfl .nnrow ?_ | refine .cons rfl .nrow ?_ | refine .cons rfl .dead ?_ | refine .cons rfl (.cells rfl ?_) ?_ | refine .cons (by first | exact .refl _ | exact .toD rfl | exact .nilD) ?_)
                · rw [tok_par hsp (by omega) (by omega)]; exact ⟨rfl, rfl⟩
              )
            · try simp only [decide_eq_true_eq, decide_eq_false_iff_not, Bool.not_eq_true', Bool.not_eq_false', Bool.not_true, Bool.not_false, Int.not_lt, Int.not_le, Bool.and_eq_true, Bool.or_eq_true, Bool.and_eq_false_iff, Bool.or_eq_false_iff, Bool.false_eq_true, Bool.true_eq_false, not_true_eq_false, not_false_eq_true, decide_true, decide_false, true_and, and_true, false_and, and_false, true_or, or_true, false_or, or_false, Bool.true_and, Bool.false_and, Bool.and_true, Bool.and_false, Bool.true_or, Bool.false_or, Bool.or_true, Bool.or_false, Int.reduceEq, Int.reduceNe, Int.reduceLT, Int.reduceLE, Int.toNat_natCast, toNat_add1] at h10
              all_goals try (first | contradiction | (exfalso; omega))
              all_goals (
                refine runs_seq ?_
                refine runs_keep [8, 7, 6, 5, 0] rfl ?_
                refine runs_region ?_
                refine ops_fl rfl rfl rfl (fl_move rfl rfl ?_)
                refine ops_fl rfl rfl rfl (fl_assign rfl rfl ?_)
                refine ops_nil ?_
                refine seq_normal ?_
                refine runs_cond rfl (fun h11 => ?_) (fun h11 => ?_)
                · try simp only [decide_eq_true_eq, decide_eq_false_iff_not, Bool.not_eq_true', Bool.not_eq_false', Bool.not_true, Bool.not_false, Int.not_lt, Int.not_le, Bool.and_eq_true, Bool.or_eq_true, Bool.and_eq_false_iff, Bool.or_eq_false_iff, Bool.false_eq_true, Bool.true_eq_false, not_true_eq_false, not_false_eq_true, decide_true, decide_false, true_and, and_true, false_and, and_false, true_or, or_true, false_or, or_false, Bool.true_and, Bool.false_and, Bool.and_true, Bool.and_false, Bool.true_or, Bool.false_or, Bool.or_true, Bool.or_false, Int.reduceEq, Int.reduceNe, Int.reduceLT, Int.reduceLE, Int.toNat_natCast, toNat_add1] at h11
                  all_goals try (first | contradiction | (exfalso; omega))
                  all_goals (
                    refine runs_seq ?_
                    refine runs_block ?_
                    refine runs_keep [6, 5, 0] rfl ?_
                    apply runs_loop_c (ι := Nat) (fun q => [(6, int q)]) [5, 0] (fun q => i < q ∧ q ≤ s.size ∧ spanB (nameB · false) s (i + 1) = spanB (nameB · false) s q) (fun q => s.size - q) (i + 1)
                    case hk => exact rfl
                    case hI =>
                      exact ⟨by omega, by omega, rfl⟩
                    case hm =>
                      refine meets_of rfl rfl rfl ?_ (.cons rfl (by first | exact .refl _ | exact .toD rfl | exact .nilD | exact Fit.of_eq rfl | exact .dle rfl (by repeat' (first | exact DLe.refl _ | exact DLe.nil | exact DLeL.nil | exact DLeLL.nil | apply DLe.agg | apply DLe.tup | apply DLe.sl | apply DLe.cp | apply DLeL.cons | apply DLeLL.cons))) (.cons rfl (by first | exact .refl _ | exact .toD rfl | exact .nilD | exact Fit.of_eq rfl | exact .dle rfl (by repeat' (first | exact DLe.refl _ | exact DLe.nil | exact DLeL.nil | exact DLeLL.nil | apply DLe.agg | apply DLe.tup | apply DLe.sl | apply DLe.cp | apply DLeL.cons | apply DLeLL.cons))) (.cons rfl (by first | exact .refl _ | exact .toD rfl | exact .nilD | exact Fit.of_eq rfl | exact .dle rfl (by repeat' (first | exact DLe.refl _ | exact DLe.nil | exact DLeL.nil | exact DLeLL.nil | apply DLe.agg | apply DLe.tup | apply DLe.sl | apply DLe.cp | apply DLeL.cons | apply DLeLL.cons))) .nil)))
                      repeat (first | exact .nil | refine .cons rfl (.cells rfl (FitL.rfl _)) ?_ | refine .cons rfl (.cells rfl (by repeat (first | exact .nil | refine .cons (by first | exact .refl _ | exact .toD rfl | exact .nil rfl | exact .nilD | exact Fit.of_eq rfl) ?_))) ?_ | refine .cons rfl .row ?_ | refine .cons rfl .mapI ?_ | refine .cons rfl .nnrow ?_ | refine .cons rfl .nrow ?_ | refine .cons rfl .dead ?_)
                    case h =>
                      rintro q hinv
                      try dsimp only at hinv
                      refine runs_keep [6, 5, 0] rfl ?_
                      refine runs_seq ?_
                      refine runs_seq ?_
                      refine runs_region ?_
                      refine ops_fl rfl rfl rfl (fl_move rfl rfl ?_)
                      refine ops_fl rfl rfl rfl (fl_move rfl rfl ?_)
                      first
                      | refine ops_fl rfl rfl rfl (fl_nil_blk rfl rfl ?_)
                      | refine ops_fl rfl rfl rfl (fl_nil_cp rfl rfl ?_)
                      first
                      | refine ops_fl rfl rfl rfl (fl_field_blk ti53 rfl rfl rfl rfl ?_)
                      | refine ops_fl rfl rfl rfl (fl_field_cp ti53 rfl rfl rfl rfl rfl ?_)
                      first
                      | refine ops_fl rfl rfl rfl (fl_load_blk ti9 rfl rfl rfl rfl rfl rfl rfl ?_)
                      | refine ops_fl rfl rfl rfl (fl_load_cp ti9 rfl rfl rfl rfl rfl rfl ?_)
                      refine ops_fl rfl rfl rfl (fl_len_s ut9 rfl rfl ?_)
                      refine ops_fl rfl rfl rfl (fl_lss rfl rfl rfl ?_)
                      refine ops_fl rfl rfl rfl (fl_move rfl rfl ?_)
                      apply ops_and (yt := 92) (d := 85) 7 rfl rfl rfl (.none rfl) rfl rfl
                      case h1 =>
                        intro hb15 hK
                        have hc := hb15; try simp only [decide_eq_true_eq, decide_eq_false_iff_not, Bool.not_eq_true', Bool.not_eq_false', Bool.not_true, Bool.not_false, Int.not_lt, Int.not_le, Bool.and_eq_true, Bool.or_eq_true, Bool.and_eq_false_iff, Bool.or_eq_false_iff, Bool.false_eq_true, Bool.true_eq_false, not_true_eq_false, not_false_eq_true, decide_true, decide_false, true_and, and_true, false_and, and_false, true_or, or_true, false_or, or_false, Bool.true_and, Bool.false_and, Bool.and_true, Bool.and_false, Bool.true_or, Bool.false_or, Bool.or_true, Bool.or_false, Int.reduceEq, Int.reduceNe, Int.reduceLT, Int.reduceLE, Int.toNat_natCast, toNat_add1] at hc
                        all_goals try (first | contradiction | (exfalso; omega))
                        all_goals (
                          refine ops_gyes rfl rfl rfl hb15 ?_
                          refine ops_fl rfl rfl rfl (fl_move rfl rfl ?_)
                          refine ops_gyes rfl rfl rfl hb15 ?_
                          first
                          | refine ops_fl rfl rfl rfl (fl_nil_blk rfl rfl ?_)
                          | refine ops_fl rfl rfl rfl (fl_nil_cp rfl rfl ?_)
                          refine ops_gyes rfl rfl rfl hb15 ?_
                          first
                          | refine ops_fl rfl rfl rfl (fl_field_blk ti53 rfl rfl rfl rfl ?_)
                          | refine ops_fl rfl rfl rfl (fl_field_cp ti53 rfl rfl rfl rfl rfl ?_)
                          refine ops_gyes rfl rfl rfl hb15 ?_
                          first
                          | refine ops_fl rfl rfl rfl (fl_load_blk ti9 rfl rfl rfl rfl rfl rfl rfl ?_)
                          | refine ops_fl rfl rfl rfl (fl_load_cp ti9 rfl rfl rfl rfl rfl rfl ?_)
                          refine ops_gyes rfl rfl rfl hb15 ?_
                          refine ops_fl rfl rfl rfl (fl_move rfl rfl ?_)
                          refine ops_gyes rfl rfl rfl hb15 ?_
                          refine ops_fl rfl rfl rfl (fl_byte ut9 rfl rfl rfl (by omega) ?_)
                          refine ops_gyes rfl rfl rfl hb15 ?_
                          refine ops_cons (T := fun _ => False) rfl (op_call ca55 rfl rfl rfl rfl (nameByte_spec (byteAt s q) false) (.cons (by first | exact .refl _ | exact .toD rfl | exact .nilD | exact .dle rfl (by repeat' (first | exact DLe.refl _ | exact DLe.nil | exact DLeL.nil | exact DLeLL.nil | apply DLe.agg | apply DLe.tup | apply DLe.sl | apply DLe.cp | apply DLeL.cons | apply DLeLL.cons))) (.cons (by first | exact .refl _ | exact .toD rfl | exact .nilD | exact .dle rfl (by repeat' (first | exact DLe.refl _ | exact DLe.nil | exact DLeL.nil | exact DLeLL.nil | apply DLe.agg | apply DLe.tup | apply DLe.sl | apply DLe.cp | apply DLeL.cons | apply DLeLL.cons))) .nil)) (fun d hd => ?_))
                          obtain rfl := hd
                          exact hK [_, _, _, _, _, _, _] rfl rfl)
                      case h2 =>
                        intro hb15 hK
                        refine ops_gno rfl rfl rfl hb15 rfl rfl ?_
                        refine ops_gno rfl rfl rfl hb15 rfl rfl ?_
                        refine ops_gno rfl rfl rfl hb15 rfl rfl ?_
                        refine ops_gno rfl rfl rfl hb15 rfl rfl ?_
                        refine ops_gno rfl rfl rfl hb15 rfl rfl ?_
                        refine ops_gno rfl rfl rfl hb15 rfl rfl ?_
                        refine ops_gno rfl rfl rfl hb15 rfl rfl ?_
                        exact hK [_, _, _, _, _, _, _] rfl
                      refine ops_nil ?_
                      refine seq_normal ?_
                      refine runs_cond rfl (fun h12 => ?_) (fun h12 => ?_)
                      · try simp only [decide_eq_true_eq, decide_eq_false_iff_not, Bool.not_eq_true', Bool.not_eq_false', Bool.not_true, Bool.not_false, Int.not_lt, Int.not_le, Bool.and_eq_true, Bool.or_eq_true, Bool.and_eq_false_iff, Bool.or_eq_false_iff, Bool.false_eq_true, Bool.true_eq_false, not_true_eq_false, not_false_eq_true, decide_true, decide_false, true_and, and_true, false_and, and_false, true_or, or_true, false_or, or_false, Bool.true_and, Bool.false_and, Bool.and_true, Bool.and_false, Bool.true_or, Bool.false_or, Bool.or_true, Bool.or_false, Int.reduceEq, Int.reduceNe, Int.reduceLT, Int.reduceLE, Int.toNat_natCast, toNat_add1] at h12
                        all_goals try (first | contradiction | (exfalso; omega))
                        all_goals (
                          refine runs_skip ?_
                          refine seq_normal ?_
                          refine runs_block ?_
                          refine runs_keep [6, 5, 0] rfl ?_
                          refine runs_region ?_
                          refine ops_fl rfl rfl rfl (fl_move rfl rfl ?_)
                          refine ops_fl rfl rfl rfl (fl_add rfl rfl rfl (by omega) ?_)
                          refine ops_fl rfl rfl rfl (fl_assign rfl rfl ?_)
                          refine ops_nil ?_
                          refine inb_normal ?_
                          refine seq_back ?_
                          refine back_i (q + 1) rfl ?_ ?_
                          · exact ⟨⟨by omega, by omega, hinv.2.2.trans (spanB_step (by omega) (by simpa using h12.2))⟩, by omega⟩
                          · refine meets_of rfl rfl rfl ?_ (.cons rfl (by first | exact .refl _ | exact .toD rfl | exact .nilD | exact Fit.of_eq rfl | exact .dle rfl (by repeat' (first | exact DLe.refl _ | exact DLe.nil | exact DLeL.nil | exact DLeLL.nil | apply DLe.agg | apply DLe.tup | apply DLe.sl | apply DLe.cp | apply DLeL.cons | apply DLeLL.cons))) (.cons rfl (by first | exact .refl _ | exact .toD rfl | exact .nilD | exact Fit.of_eq rfl | exact .dle rfl (by repeat' (first | exact DLe.refl _ | exact DLe.nil | exact DLeL.nil | exact DLeLL.nil | apply DLe.agg | apply DLe.tup | apply DLe.sl | apply DLe.cp | apply DLeL.cons | apply DLeLL.cons))) (.cons rfl (by first | exact .refl _ | exact .toD rfl | exact .nilD | exact Fit.of_eq rfl | exact .dle rfl (by repeat' (first | exact DLe.refl _ | exact DLe.nil | exact DLeL.nil | exact DLeLL.nil | apply DLe.agg | apply DLe.tup | apply DLe.sl | apply DLe.cp | apply DLeL.cons | apply DLeLL.cons))) .nil)))
                            repeat (first | exact .nil | refine .cons rfl (.cells rfl (FitL.rfl _)) ?_ | refine .cons rfl (.cells rfl (by repeat (first | exact .nil | refine .cons (by first | exact .refl _ | exact .toD rfl | exact .nil rfl | exact .nilD | exact Fit.of_eq rfl) ?_))) ?_ | refine .cons rfl .row ?_ | refine .cons rfl .mapI ?_ | refine .cons rfl .nnrow ?_ | refine .cons rfl .nrow ?_ | refine .cons rfl .dead ?_)
                        )
                      · try simp only [decide_eq_true_eq, decide_eq_false_iff_not, Bool.not_eq_true', Bool.not_eq_false', Bool.not_true, Bool.not_false, Int.not_lt, Int.not_le, Bool.and_eq_true, Bool.or_eq_true, Bool.and_eq_false_iff, Bool.or_eq_false_iff, Bool.false_eq_true, Bool.true_eq_false, not_true_eq_false, not_false_eq_true, decide_true, decide_false, true_and, and_true, false_and, and_false, true_or, or_true, false_or, or_false, Bool.true_and, Bool.false_and, Bool.and_true, Bool.and_false, Bool.true_or, Bool.false_or, Bool.or_true, Bool.or_false, Int.reduceEq, Int.reduceNe, Int.reduceLT, Int.reduceLE, Int.toNat_natCast, toNat_add1] at h12
                        all_goals try (first | contradiction | (exfalso; omega))
                        all_goals (
                          refine runs_exit ?_
                          refine seq_exit ?_
                          refine seq_exit ?_
                          refine inb_exit ?_
                          refine seq_normal ?_
                          refine runs_seq ?_
                          refine runs_keep [6, 5, 0] rfl ?_
                          refine runs_region ?_
                          refine ops_fl rfl rfl rfl (fl_move rfl rfl ?_)
                          refine ops_fl rfl rfl rfl (fl_move rfl rfl ?_)
                          refine ops_fl rfl rfl rfl (fl_sub rfl rfl rfl (by omega) ?_)
                          refine ops_fl rfl rfl rfl (fl_gtr rfl rfl rfl ?_)
                          refine ops_nil ?_
                          refine seq_normal ?_
                          refine runs_cond rfl (fun h14 => ?_) (fun h14 => ?_)
                          · try simp only [decide_eq_true_eq, decide_eq_false_iff_not, Bool.not_eq_true', Bool.not_eq_false', Bool.not_true, Bool.not_false, Int.not_lt, Int.not_le, Bool.and_eq_true, Bool.or_eq_true, Bool.and_eq_false_iff, Bool.or_eq_false_iff, Bool.false_eq_true, Bool.true_eq_false, not_true_eq_false, not_false_eq_true, decide_true, decide_false, true_and, and_true, false_and, and_false, true_or, or_true, false_or, or_false, Bool.true_and, Bool.false_and, Bool.and_true, Bool.and_false, Bool.true_or, Bool.false_or, Bool.or_true, Bool.or_false, Int.reduceEq, Int.reduceNe, Int.reduceLT, Int.reduceLE, Int.toNat_natCast, toNat_add1] at h14
                            all_goals try (first | contradiction | (exfalso; omega))
                            all_goals (
                              refine runs_seq ?_
                              refine runs_keep [5] rfl ?_
                              refine runs_region ?_
                              refine ops_fl rfl rfl rfl (fl_move rfl rfl ?_)
                              refine ops_fl rfl rfl rfl (fl_assign rfl rfl ?_)
                              refine ops_fl rfl rfl rfl (fl_assign rfl rfl ?_)
                              refine ops_fl rfl rfl rfl (fl_assign rfl rfl ?_)
                              refine ops_nil ?_
                              refine seq_normal ?_
                              refine runs_ret ?_
                              refine inb_ret ?_
                              refine seq_ret ?_
                              refine fin_ret ?_
                              refine fin_od ⟨_, _, rfl, rfl, ⟨_, _, rfl, rfl, ⟨_, _, rfl, rfl, rfl⟩⟩⟩ rfl ([0]) ([.cells [.d (.v (.string s)), .d (.v (.int .i64 p)), .d (.v (.int .i64 c)), .d (.v (.int .i64 a))] 53]) rfl rfl rfl ?_ ?_
                              · repeat (first | exact .nil | refine .cons rfl (.cells rfl (FitL.rfl _)) ?_ | refine .cons rfl .row ?_ | refine .cons rfl .mapI ?_ | refine .cons rfl .nnrow ?_ | refine .cons rfl .nrow ?_ | refine .cons rfl .dead ?_ | refine .cons rfl (.cells rfl ?_) ?_ | refine .cons (by first | exact .refl _ | exact .toD rfl | exact .nilD) ?_)
                              · rw [tok_nameNo hsp (by omega) (by omega) h11 (spanB_run hinv.2.2 h12) (by omega)]; exact ⟨rfl, rfl⟩
                            )
                          · try simp only [decide_eq_true_eq, decide_eq_false_iff_not, Bool.not_eq_true', Bool.not_eq_false', Bool.not_true, Bool.not_false, Int.not_lt, Int.not_le, Bool.and_eq_true, Bool.or_eq_true, Bool.and_eq_false_iff, Bool.or_eq_false_iff, Bool.false_eq_true, Bool.true_eq_false, not_true_eq_false, not_false_eq_true, decide_true, decide_false, true_and, and_true, false_and, and_false, true_or, or_true, false_or, or_false, Bool.true_and, Bool.false_and, Bool.and_true, Bool.and_false, Bool.true_or, Bool.false_or, Bool.or_true, Bool.or_false, Int.reduceEq, Int.reduceNe, Int.reduceLT, Int.reduceLE, Int.toNat_natCast, toNat_add1] at h14
                            all_goals try (first | contradiction | (exfalso; omega))
                            all_goals (
                              refine runs_skip ?_
                              refine inb_normal ?_
                              refine seq_normal ?_
                              refine runs_seq ?_
                              refine runs_keep [6, 5, 0] rfl ?_
                              refine runs_region ?_
                              refine ops_fl rfl rfl rfl (fl_move rfl rfl ?_)
                              first
                              | refine ops_fl rfl rfl rfl (fl_nil_blk rfl rfl ?_)
                              | refine ops_fl rfl rfl rfl (fl_nil_cp rfl rfl ?_)
                              first
                              | refine ops_fl rfl rfl rfl (fl_field_blk ti53 rfl rfl rfl rfl ?_)
                              | refine ops_fl rfl rfl rfl (fl_field_cp ti53 rfl rfl rfl rfl rfl ?_)
                              first
                              | refine ops_fl rfl rfl rfl (fl_load_blk ti9 rfl rfl rfl rfl rfl rfl rfl ?_)
                              | refine ops_fl rfl rfl rfl (fl_load_cp ti9 rfl rfl rfl rfl rfl rfl ?_)
                              refine ops_fl rfl rfl rfl (fl_move rfl rfl ?_)
                              refine ops_fl rfl rfl rfl (fl_move rfl rfl ?_)
                              refine ops_fl rfl rfl rfl (fl_sub_lh ut9 rfl rfl rfl rfl (by omega) ?_)
                              refine ops_fl rfl rfl rfl (fl_move rfl rfl ?_)
                              refine ops_fl rfl rfl rfl (fl_assign rfl rfl ?_)
                              refine ops_fl rfl rfl rfl (fl_assign rfl rfl ?_)
                              refine ops_fl rfl rfl rfl (fl_assign rfl rfl ?_)
                              refine ops_nil ?_
                              refine seq_normal ?_
                              refine runs_ret ?_
                              refine fin_ret ?_
                              refine fin_od ⟨_, _, rfl, rfl, ⟨_, _, rfl, rfl, ⟨_, _, rfl, rfl, rfl⟩⟩⟩ rfl ([0]) ([.cells [.d (.v (.string s)), .d (.v (.int .i64 p)), .d (.v (.int .i64 c)), .d (.v (.int .i64 a))] 53]) rfl rfl rfl ?_ ?_
                              · repeat (first | exact .nil | refine .cons rfl (.cells rfl (FitL.rfl _)) ?_ | refine .cons rfl .row ?_ | refine .cons rfl .mapI ?_ | refine .cons rfl .nnrow ?_ | refine .cons rfl .nrow ?_ | refine .cons rfl .dead ?_ | refine .cons rfl (.cells rfl ?_) ?_ | refine .cons (by first | exact .refl _ | exact .toD rfl | exact .nilD) ?_)
                              · rw [tok_name hsp (by omega) (by omega) h11 (spanB_run hinv.2.2 h12) (by omega)]; exact ⟨rfl, rfl⟩
                            )
                        )
                  )
                · try simp only [decide_eq_true_eq, decide_eq_false_iff_not, Bool.not_eq_true', Bool.not_eq_false', Bool.not_true, Bool.not_false, Int.not_lt, Int.not_le, Bool.and_eq_true, Bool.or_eq_true, Bool.and_eq_false_iff, Bool.or_eq_false_iff, Bool.false_eq_true, Bool.true_eq_false, not_true_eq_false, not_false_eq_true, decide_true, decide_false, true_and, and_true, false_and, and_false, true_or, or_true, false_or, or_false, Bool.true_and, Bool.false_and, Bool.and_true, Bool.and_false, Bool.true_or, Bool.false_or, Bool.or_true, Bool.or_false, Int.reduceEq, Int.reduceNe, Int.reduceLT, Int.reduceLE, Int.toNat_natCast, toNat_add1] at h11
                  all_goals try (first | contradiction | (exfalso; omega))
                  all_goals (
                    refine runs_seq ?_
                    refine runs_region ?_
                    refine ops_fl rfl rfl rfl (fl_move rfl rfl ?_)
                    refine ops_fl rfl rfl rfl (fl_eql rfl rfl rfl ?_)
                    refine ops_fl rfl rfl rfl (fl_move rfl rfl ?_)
                    apply ops_or (yt := 110) (d := 104) 6 rfl rfl rfl (.none rfl) rfl rfl
                    case h1 =>
                      intro hb4 hK
                      have hc := hb4; try simp only [decide_eq_true_eq, decide_eq_false_iff_not, Bool.not_eq_true', Bool.not_eq_false', Bool.not_true, Bool.not_false, Int.not_lt, Int.not_le, Bool.and_eq_true, Bool.or_eq_true, Bool.and_eq_false_iff, Bool.or_eq_false_iff, Bool.false_eq_true, Bool.true_eq_false, not_true_eq_false, not_false_eq_true, decide_true, decide_false, true_and, and_true, false_and, and_false, true_or, or_true, false_or, or_false, Bool.true_and, Bool.false_and, Bool.and_true, Bool.and_false, Bool.true_or, Bool.false_or, Bool.or_true, Bool.or_false, Int.reduceEq, Int.reduceNe, Int.reduceLT, Int.reduceLE, Int.toNat_natCast, toNat_add1] at hc
                      all_goals try (first | contradiction | (exfalso; omega))
                      all_goals (
                        refine ops_gyes rfl rfl rfl hb4 ?_
                        refine ops_fl rfl rfl rfl (fl_move rfl rfl ?_)
                        refine ops_gyes rfl rfl rfl hb4 ?_
                        refine ops_fl rfl rfl rfl (fl_geq rfl rfl rfl ?_)
                        refine ops_gyes rfl rfl rfl hb4 ?_
                        refine ops_fl rfl rfl rfl (fl_move rfl rfl ?_)
                        apply ops_and (yt := 109) (d := 107) 2 rfl rfl rfl (.yes rfl rfl rfl hb4) rfl rfl
                        case h1 =>
                          intro hb11 hK
                          have hc := hb11; try simp only [decide_eq_true_eq, decide_eq_false_iff_not, Bool.not_eq_true', Bool.not_eq_false', Bool.not_true, Bool.not_false, Int.not_lt, Int.not_le, Bool.and_eq_true, Bool.or_eq_true, Bool.and_eq_false_iff, Bool.or_eq_false_iff, Bool.false_eq_true, Bool.true_eq_false, not_true_eq_false, not_false_eq_true, decide_true, decide_false, true_and, and_true, false_and, and_false, true_or, or_true, false_or, or_false, Bool.true_and, Bool.false_and, Bool.and_true, Bool.and_false, Bool.true_or, Bool.false_or, Bool.or_true, Bool.or_false, Int.reduceEq, Int.reduceNe, Int.reduceLT, Int.reduceLE, Int.toNat_natCast, toNat_add1] at hc
                          all_goals try (first | contradiction | (exfalso; omega))
                          all_goals (
                            refine ops_gyes rfl rfl rfl hb11 ?_
                            refine ops_fl rfl rfl rfl (fl_move rfl rfl ?_)
                            refine ops_gyes rfl rfl rfl hb11 ?_
                            refine ops_fl rfl rfl rfl (fl_leq rfl rfl rfl ?_)
                            exact hK [_, _] rfl rfl)
                        case h2 =>
                          intro hb11 hK
                          refine ops_gno rfl rfl rfl hb11 rfl rfl ?_
                          refine ops_gno rfl rfl rfl hb11 rfl rfl ?_
                          exact hK [_, _] rfl
                        exact hK [_, _, _, _] rfl rfl)
                    case h2 =>
                      intro hb4 hK
                      refine ops_gno rfl rfl rfl hb4 rfl rfl ?_
                      refine ops_gno rfl rfl rfl hb4 rfl rfl ?_
                      refine ops_gno rfl rfl rfl hb4 rfl rfl ?_
                      refine ops_guard_undef rfl rfl rfl rfl rfl ?_
                      refine ops_guard_undef rfl rfl rfl rfl rfl ?_
                      refine ops_gno rfl rfl rfl hb4 rfl rfl ?_
                      exact hK [_, _, _, _, _, _] rfl
                    refine ops_fl rfl rfl rfl (fl_assign rfl rfl ?_)
                    refine ops_nil ?_
                    refine seq_normal ?_
                    refine runs_cond rfl (fun h16 => ?_) (fun h16 => ?_)
                    · try simp only [decide_eq_true_eq, decide_eq_false_iff_not, Bool.not_eq_true', Bool.not_eq_false', Bool.not_true, Bool.not_false, Int.not_lt, Int.not_le, Bool.and_eq_true, Bool.or_eq_true, Bool.and_eq_false_iff, Bool.or_eq_false_iff, Bool.false_eq_true, Bool.true_eq_false, not_true_eq_false, not_false_eq_true, decide_true, decide_false, true_and, and_true, false_and, and_false, true_or, or_true, false_or, or_false, Bool.true_and, Bool.false_and, Bool.and_true, Bool.and_false, Bool.true_or, Bool.false_or, Bool.or_true, Bool.or_false, Int.reduceEq, Int.reduceNe, Int.reduceLT, Int.reduceLE, Int.toNat_natCast, toNat_add1] at h16
                      all_goals try (first | contradiction | (exfalso; omega))
                      all_goals (
                        refine runs_seq ?_
                        refine runs_block ?_
                        refine runs_keep [7, 6, 5, 0] rfl ?_
                        apply runs_loop_c (ι := Nat) (fun q => [(6, int q)]) [7, 5, 0] (fun q => i < q ∧ q ≤ s.size ∧ spanB digB s (i + 1) = spanB digB s q) (fun q => s.size - q) (i + 1)
                        case hk => exact rfl
                        case hI =>
                          exact ⟨by omega, by omega, rfl⟩
                        case hm =>
                          refine meets_of rfl rfl rfl ?_ (.cons rfl (by first | exact .refl _ | exact .toD rfl | exact .nilD | exact Fit.of_eq rfl | exact .dle rfl (by repeat' (first | exact DLe.refl _ | exact DLe.nil | exact DLeL.nil | exact DLeLL.nil | apply DLe.agg | apply DLe.tup | apply DLe.sl | apply DLe.cp | apply DLeL.cons | apply DLeLL.cons))) (.cons rfl (by first | exact .refl _ | exact .toD rfl | exact .nilD | exact Fit.of_eq rfl | exact .dle rfl (by repeat' (first | exact DLe.refl _ | exact DLe.nil | exact DLeL.nil | exact DLeLL.nil | apply DLe.agg | apply DLe.tup | apply DLe.sl | apply DLe.cp | apply DLeL.cons | apply DLeLL.cons))) (.cons rfl (by first | exact .refl _ | exact .toD rfl | exact .nilD | exact Fit.of_eq rfl | exact .dle rfl (by repeat' (first | exact DLe.refl _ | exact DLe.nil | exact DLeL.nil | exact DLeLL.nil | apply DLe.agg | apply DLe.tup | apply DLe.sl | apply DLe.cp | apply DLeL.cons | apply DLeLL.cons))) (.cons rfl (by first | exact .refl _ | exact .toD rfl | exact .nilD | exact Fit.of_eq rfl | exact .dle rfl (by repeat' (first | exact DLe.refl _ | exact DLe.nil | exact DLeL.nil | exact DLeLL.nil | apply DLe.agg | apply DLe.tup | apply DLe.sl | apply DLe.cp | apply DLeL.cons | apply DLeLL.cons))) .nil))))
                          repeat (first | exact .nil | refine .cons rfl (.cells rfl (FitL.rfl _)) ?_ | refine .cons rfl (.cells rfl (by repeat (first | exact .nil | refine .cons (by first | exact .refl _ | exact .toD rfl | exact .nil rfl | exact .nilD | exact Fit.of_eq rfl) ?_))) ?_ | refine .cons rfl .row ?_ | refine .cons rfl .mapI ?_ | refine .cons rfl .nnrow ?_ | refine .cons rfl .nrow ?_ | refine .cons rfl .dead ?_)
                        case h =>
                          rintro q hinv
                          try dsimp only at hinv
                          refine runs_keep [6, 7, 5, 0] rfl ?_
                          refine runs_seq ?_
                          refine runs_seq ?_
                          refine runs_region ?_
                          refine ops_fl rfl rfl rfl (fl_move rfl rfl ?_)
                          refine ops_fl rfl rfl rfl (fl_move rfl rfl ?_)
                          first
                          | refine ops_fl rfl rfl rfl (fl_nil_blk rfl rfl ?_)
                          | refine ops_fl rfl rfl rfl (fl_nil_cp rfl rfl ?_)
                          first
                          | refine ops_fl rfl rfl rfl (fl_field_blk ti53 rfl rfl rfl rfl ?_)
                          | refine ops_fl rfl rfl rfl (fl_field_cp ti53 rfl rfl rfl rfl rfl ?_)
                          first
                          | refine ops_fl rfl rfl rfl (fl_load_blk ti9 rfl rfl rfl rfl rfl rfl rfl ?_)
                          | refine ops_fl rfl rfl rfl (fl_load_cp ti9 rfl rfl rfl rfl rfl rfl ?_)
                          refine ops_fl rfl rfl rfl (fl_len_s ut9 rfl rfl ?_)
                          refine ops_fl rfl rfl rfl (fl_lss rfl rfl rfl ?_)
                          refine ops_fl rfl rfl rfl (fl_move rfl rfl ?_)
                          apply ops_and (yt := 126) (d := 119) 7 rfl rfl rfl (.none rfl) rfl rfl
                          case h1 =>
                            intro hb15 hK
                            have hc := hb15; try simp only [decide_eq_true_eq, decide_eq_false_iff_not, Bool.not_eq_true', Bool.not_eq_false', Bool.not_true, Bool.not_false, Int.not_lt, Int.not_le, Bool.and_eq_true, Bool.or_eq_true, Bool.and_eq_false_iff, Bool.or_eq_false_iff, Bool.false_eq_true, Bool.true_eq_false, not_true_eq_false, not_false_eq_true, decide_true, decide_false, true_and, and_true, false_and, and_false, true_or, or_true, false_or, or_false, Bool.true_and, Bool.false_and, Bool.and_true, Bool.and_false, Bool.true_or, Bool.false_or, Bool.or_true, Bool.or_false, Int.reduceEq, Int.reduceNe, Int.reduceLT, Int.reduceLE, Int.toNat_natCast, toNat_add1] at hc
                            all_goals try (first | contradiction | (exfalso; omega))
                            all_goals (
                              refine ops_gyes rfl rfl rfl hb15 ?_
                              refine ops_fl rfl rfl rfl (fl_move rfl rfl ?_)
                              refine ops_gyes rfl rfl rfl hb15 ?_
                              first
                              | refine ops_fl rfl rfl rfl (fl_nil_blk rfl rfl ?_)
                              | refine ops_fl rfl rfl rfl (fl_nil_cp rfl rfl ?_)
                              refine ops_gyes rfl rfl rfl hb15 ?_
                              first
                              | refine ops_fl rfl rfl rfl (fl_field_blk ti53 rfl rfl rfl rfl ?_)
                              | refine ops_fl rfl rfl rfl (fl_field_cp ti53 rfl rfl rfl rfl rfl ?_)
                              refine ops_gyes rfl rfl rfl hb15 ?_
                              first
                              | refine ops_fl rfl rfl rfl (fl_load_blk ti9 rfl rfl rfl rfl rfl rfl rfl ?_)
                              | refine ops_fl rfl rfl rfl (fl_load_cp ti9 rfl rfl rfl rfl rfl rfl ?_)
                              refine ops_gyes rfl rfl rfl hb15 ?_
                              refine ops_fl rfl rfl rfl (fl_move rfl rfl ?_)
                              refine ops_gyes rfl rfl rfl hb15 ?_
                              refine ops_fl rfl rfl rfl (fl_byte ut9 rfl rfl rfl (by omega) ?_)
                              refine ops_gyes rfl rfl rfl hb15 ?_
                              refine ops_fl rfl rfl rfl (fl_geq rfl rfl rfl ?_)
                              exact hK [_, _, _, _, _, _, _] rfl rfl)
                          case h2 =>
                            intro hb15 hK
                            refine ops_gno rfl rfl rfl hb15 rfl rfl ?_
                            refine ops_gno rfl rfl rfl hb15 rfl rfl ?_
                            refine ops_gno rfl rfl rfl hb15 rfl rfl ?_
                            refine ops_gno rfl rfl rfl hb15 rfl rfl ?_
                            refine ops_gno rfl rfl rfl hb15 rfl rfl ?_
                            refine ops_gno rfl rfl rfl hb15 rfl rfl ?_
                            refine ops_gno rfl rfl rfl hb15 rfl rfl ?_
                            exact hK [_, _, _, _, _, _, _] rfl
                          refine ops_fl rfl rfl rfl (fl_move rfl rfl ?_)
                          apply ops_and (yt := 135) (d := 128) 7 rfl rfl rfl (.none rfl) rfl rfl
                          case h1 =>
                            intro hb33 hK
                            have hc := hb33; try simp only [decide_eq_true_eq, decide_eq_false_iff_not, Bool.not_eq_true', Bool.not_eq_false', Bool.not_true, Bool.not_false, Int.not_lt, Int.not_le, Bool.and_eq_true, Bool.or_eq_true, Bool.and_eq_false_iff, Bool.or_eq_false_iff, Bool.false_eq_true, Bool.true_eq_false, not_true_eq_false, not_false_eq_true, decide_true, decide_false, true_and, and_true, false_and, and_false, true_or, or_true, false_or, or_false, Bool.true_and, Bool.false_and, Bool.and_true, Bool.and_false, Bool.true_or, Bool.false_or, Bool.or_true, Bool.or_false, Int.reduceEq, Int.reduceNe, Int.reduceLT, Int.reduceLE, Int.toNat_natCast, toNat_add1] at hc
                            all_goals try (first | contradiction | (exfalso; omega))
                            all_goals (
                              refine ops_gyes rfl rfl rfl hb33 ?_
                              refine ops_fl rfl rfl rfl (fl_move rfl rfl ?_)
                              refine ops_gyes rfl rfl rfl hb33 ?_
                              first
                              | refine ops_fl rfl rfl rfl (fl_nil_blk rfl rfl ?_)
                              | refine ops_fl rfl rfl rfl (fl_nil_cp rfl rfl ?_)
                              refine ops_gyes rfl rfl rfl hb33 ?_
                              first
                              | refine ops_fl rfl rfl rfl (fl_field_blk ti53 rfl rfl rfl rfl ?_)
                              | refine ops_fl rfl rfl rfl (fl_field_cp ti53 rfl rfl rfl rfl rfl ?_)
                              refine ops_gyes rfl rfl rfl hb33 ?_
                              first
                              | refine ops_fl rfl rfl rfl (fl_load_blk ti9 rfl rfl rfl rfl rfl rfl rfl ?_)
                              | refine ops_fl rfl rfl rfl (fl_load_cp ti9 rfl rfl rfl rfl rfl rfl ?_)
                              refine ops_gyes rfl rfl rfl hb33 ?_
                              refine ops_fl rfl rfl rfl (fl_move rfl rfl ?_)
                              refine ops_gyes rfl rfl rfl hb33 ?_
                              refine ops_fl rfl rfl rfl (fl_byte ut9 rfl rfl rfl (by omega) ?_)
                              refine ops_gyes rfl rfl rfl hb33 ?_
                              refine ops_fl rfl rfl rfl (fl_leq rfl rfl rfl ?_)
                              exact hK [_, _, _, _, _, _, _] rfl rfl)
                          case h2 =>
                            intro hb33 hK
                            refine ops_gno rfl rfl rfl hb33 rfl rfl ?_
                            refine ops_gno rfl rfl rfl hb33 rfl rfl ?_
                            refine ops_gno rfl rfl rfl hb33 rfl rfl ?_
                            refine ops_gno rfl rfl rfl hb33 rfl rfl ?_
                            refine ops_gno rfl rfl rfl hb33 rfl rfl ?_
                            refine ops_gno rfl rfl rfl hb33 rfl rfl ?_
                            refine ops_gno rfl rfl rfl hb33 rfl rfl ?_
                            exact hK [_, _, _, _, _, _, _] rfl
                          refine ops_nil ?_
                          refine seq_normal ?_
                          refine runs_cond rfl (fun h17 => ?_) (fun h17 => ?_)
                          · try simp only [decide_eq_true_eq, decide_eq_false_iff_not, Bool.not_eq_true', Bool.not_eq_false', Bool.not_true, Bool.not_false, Int.not_lt, Int.not_le, Bool.and_eq_true, Bool.or_eq_true, Bool.and_eq_false_iff, Bool.or_eq_false_iff, Bool.false_eq_true, Bool.true_eq_false, not_true_eq_false, not_false_eq_true, decide_true, decide_false, true_and, and_true, false_and, and_false, true_or, or_true, false_or, or_false, Bool.true_and, Bool.false_and, Bool.and_true, Bool.and_false, Bool.true_or, Bool.false_or, Bool.or_true, Bool.or_false, Int.reduceEq, Int.reduceNe, Int.reduceLT, Int.reduceLE, Int.toNat_natCast, toNat_add1] at h17
                            all_goals try (first | contradiction | (exfalso; omega))
                            all_goals (
                              refine runs_skip ?_
                              refine seq_normal ?_
                              refine runs_block ?_
                              refine runs_keep [6, 7, 5, 0] rfl ?_
                              refine runs_region ?_
                              refine ops_fl rfl rfl rfl (fl_move rfl rfl ?_)
                              refine ops_fl rfl rfl rfl (fl_add rfl rfl rfl (by omega) ?_)
                              refine ops_fl rfl rfl rfl (fl_assign rfl rfl ?_)
                              refine ops_nil ?_
                              refine inb_normal ?_
                              refine seq_back ?_
                              refine back_i (q + 1) rfl ?_ ?_
                              · exact ⟨⟨by omega, by omega, hinv.2.2.trans (spanB_step (by omega) (by simp only [digB, decide_eq_true_eq]; omega))⟩, by omega⟩
                              · refine meets_of rfl rfl rfl ?_ (.cons rfl (by first | exact .refl _ | exact .toD rfl | exact .nilD | exact Fit.of_eq rfl | exact .dle rfl (by repeat' (first | exact DLe.refl _ | exact DLe.nil | exact DLeL.nil | exact DLeLL.nil | apply DLe.agg | apply DLe.tup | apply DLe.sl | apply DLe.cp | apply DLeL.cons | apply DLeLL.cons))) (.cons rfl (by first | exact .refl _ | exact .toD rfl | exact .nilD | exact Fit.of_eq rfl | exact .dle rfl (by repeat' (first | exact DLe.refl _ | exact DLe.nil | exact DLeL.nil | exact DLeLL.nil | apply DLe.agg | apply DLe.tup | apply DLe.sl | apply DLe.cp | apply DLeL.cons | apply DLeLL.cons))) (.cons rfl (by first | exact .refl _ | exact .toD rfl | exact .nilD | exact Fit.of_eq rfl | exact .dle rfl (by repeat' (first | exact DLe.refl _ | exact DLe.nil | exact DLeL.nil | exact DLeLL.nil | apply DLe.agg | apply DLe.tup | apply DLe.sl | apply DLe.cp | apply DLeL.cons | apply DLeLL.cons))) (.cons rfl (by first | exact .refl _ | exact .toD rfl | exact .nilD | exact Fit.of_eq rfl | exact .dle rfl (by repeat' (first | exact DLe.refl _ | exact DLe.nil | exact DLeL.nil | exact DLeLL.nil | apply DLe.agg | apply DLe.tup | apply DLe.sl | apply DLe.cp | apply DLeL.cons | apply DLeLL.cons))) .nil))))
                                repeat (first | exact .nil | refine .cons rfl (.cells rfl (FitL.rfl _)) ?_ | refine .cons rfl (.cells rfl (by repeat (first | exact .nil | refine .cons (by first | exact .refl _ | exact .toD rfl | exact .nil rfl | exact .nilD | exact Fit.of_eq rfl) ?_))) ?_ | refine .cons rfl .row ?_ | refine .cons rfl .mapI ?_ | refine .cons rfl .nnrow ?_ | refine .cons rfl .nrow ?_ | refine .cons rfl .dead ?_)
                            )
                          · try simp only [decide_eq_true_eq, decide_eq_false_iff_not, Bool.not_eq_true', Bool.not_eq_false', Bool.not_true, Bool.not_false, Int.not_lt, Int.not_le, Bool.and_eq_true, Bool.or_eq_true, Bool.and_eq_false_iff, Bool.or_eq_false_iff, Bool.false_eq_true, Bool.true_eq_false, not_true_eq_false, not_false_eq_true, decide_true, decide_false, true_and, and_true, false_and, and_false, true_or, or_true, false_or, or_false, Bool.true_and, Bool.false_and, Bool.and_true, Bool.and_false, Bool.true_or, Bool.false_or, Bool.or_true, Bool.or_false, Int.reduceEq, Int.reduceNe, Int.reduceLT, Int.reduceLE, Int.toNat_natCast, toNat_add1] at h17
                            all_goals try (first | contradiction | (exfalso; omega))
                            all_goals (
                              refine runs_exit ?_
                              refine seq_exit ?_
                              refine seq_exit ?_
                              refine inb_exit ?_
                              refine seq_normal ?_
                              refine runs_seq ?_
                              refine runs_keep [6, 7, 5, 0] rfl ?_
                              refine runs_region ?_
                              refine ops_fl rfl rfl rfl (fl_move rfl rfl ?_)
                              refine ops_fl rfl rfl rfl (fl_assign rfl rfl ?_)
                              refine ops_nil ?_
                              refine seq_normal ?_
                              refine runs_seq ?_
                              refine runs_seq ?_
                              refine runs_region ?_
                              refine ops_fl rfl rfl rfl (fl_move rfl rfl ?_)
                              refine ops_fl rfl rfl rfl (fl_eql rfl rfl rfl ?_)
                              refine ops_nil ?_
                              refine seq_normal ?_
                              refine runs_cond rfl (fun h20 => ?_) (fun h20 => ?_)
                              · try simp only [decide_eq_true_eq, decide_eq_false_iff_not, Bool.not_eq_true', Bool.not_eq_false', Bool.not_true, Bool.not_false, Int.not_lt, Int.not_le, Bool.and_eq_true, Bool.or_eq_true, Bool.and_eq_false_iff, Bool.or_eq_false_iff, Bool.false_eq_true, Bool.true_eq_false, not_true_eq_false, not_false_eq_true, decide_true, decide_false, true_and, and_true, false_and, and_false, true_or, or_true, false_or, or_false, Bool.true_and, Bool.false_and, Bool.and_true, Bool.and_false, Bool.true_or, Bool.false_or, Bool.or_true, Bool.or_false, Int.reduceEq, Int.reduceNe, Int.reduceLT, Int.reduceLE, Int.toNat_natCast, toNat_add1] at h20
                                all_goals try (first | contradiction | (exfalso; omega))
                                all_goals (
                                  refine runs_keep [6, 5, 0] rfl ?_
                                  refine runs_region ?_
                                  refine ops_fl rfl rfl rfl (fl_move rfl rfl ?_)
                                  refine ops_fl rfl rfl rfl (fl_add rfl rfl rfl (by omega) ?_)
                                  refine ops_fl rfl rfl rfl (fl_assign rfl rfl ?_)
                                  refine ops_nil ?_
                                  refine seq_normal ?_
                                  refine runs_seq ?_
                                  refine runs_region ?_
                                  refine ops_fl rfl rfl rfl (fl_move rfl rfl ?_)
                                  refine ops_fl rfl rfl rfl (fl_move rfl rfl ?_)
                                  refine ops_fl rfl rfl rfl (fl_eql rfl rfl rfl ?_)
                                  refine ops_fl rfl rfl rfl (fl_move rfl rfl ?_)
                                  apply ops_or (yt := 151) (d := 147) 4 rfl rfl rfl (.none rfl) rfl rfl
                                  case h1 =>
                                    intro hb6 hK
                                    have hc := hb6; try simp only [decide_eq_true_eq, decide_eq_false_iff_not, Bool.not_eq_true', Bool.not_eq_false', Bool.not_true, Bool.not_false, Int.not_lt, Int.not_le, Bool.and_eq_true, Bool.or_eq_true, Bool.and_eq_false_iff, Bool.or_eq_false_iff, Bool.false_eq_true, Bool.true_eq_false, not_true_eq_false, not_false_eq_true, decide_true, decide_false, true_and, and_true, false_and, and_false, true_or, or_true, false_or, or_false, Bool.true_and, Bool.false_and, Bool.and_true, Bool.and_false, Bool.true_or, Bool.false_or, Bool.or_true, Bool.or_false, Int.reduceEq, Int.reduceNe, Int.reduceLT, Int.reduceLE, Int.toNat_natCast, toNat_add1] at hc
                                    all_goals try (first | contradiction | (exfalso; omega))
                                    all_goals (
                                      refine ops_gyes rfl rfl rfl hb6 ?_
                                      refine ops_fl rfl rfl rfl (fl_move rfl rfl ?_)
                                      refine ops_gyes rfl rfl rfl hb6 ?_
                                      refine ops_fl rfl rfl rfl (fl_move rfl rfl ?_)
                                      refine ops_gyes rfl rfl rfl hb6 ?_
                                      refine ops_fl rfl rfl rfl (fl_sub rfl rfl rfl (by omega) ?_)
                                      refine ops_gyes rfl rfl rfl hb6 ?_
                                      refine ops_fl rfl rfl rfl (fl_gtr rfl rfl rfl ?_)
                                      exact hK [_, _, _, _] rfl rfl)
                                  case h2 =>
                                    intro hb6 hK
                                    refine ops_gno rfl rfl rfl hb6 rfl rfl ?_
                                    refine ops_gno rfl rfl rfl hb6 rfl rfl ?_
                                    refine ops_gno rfl rfl rfl hb6 rfl rfl ?_
                                    refine ops_gno rfl rfl rfl hb6 rfl rfl ?_
                                    exact hK [_, _, _, _] rfl
                                  refine ops_fl rfl rfl rfl (fl_move rfl rfl ?_)
                                  apply ops_or (yt := 166) (d := 153) 13 rfl rfl rfl (.none rfl) rfl rfl
                                  case h1 =>
                                    intro hb18 hK
                                    have hc := hb18; try simp only [decide_eq_true_eq, decide_eq_false_iff_not, Bool.not_eq_true', Bool.not_eq_false', Bool.not_true, Bool.not_false, Int.not_lt, Int.not_le, Bool.and_eq_true, Bool.or_eq_true, Bool.and_eq_false_iff, Bool.or_eq_false_iff, Bool.false_eq_true, Bool.true_eq_false, not_true_eq_false, not_false_eq_true, decide_true, decide_false, true_and, and_true, false_and, and_false, true_or, or_true, false_or, or_false, Bool.true_and, Bool.false_and, Bool.and_true, Bool.and_false, Bool.true_or, Bool.false_or, Bool.or_true, Bool.or_false, Int.reduceEq, Int.reduceNe, Int.reduceLT, Int.reduceLE, Int.toNat_natCast, toNat_add1] at hc
                                    all_goals try (first | contradiction | (exfalso; omega))
                                    all_goals (
                                      refine ops_gyes rfl rfl rfl hb18 ?_
                                      refine ops_fl rfl rfl rfl (fl_move rfl rfl ?_)
                                      refine ops_gyes rfl rfl rfl hb18 ?_
                                      refine ops_fl rfl rfl rfl (fl_move rfl rfl ?_)
                                      refine ops_gyes rfl rfl rfl hb18 ?_
                                      refine ops_fl rfl rfl rfl (fl_sub rfl rfl rfl (by omega) ?_)
                                      refine ops_gyes rfl rfl rfl hb18 ?_
                                      refine ops_fl rfl rfl rfl (fl_gtr rfl rfl rfl ?_)
                                      refine ops_gyes rfl rfl rfl hb18 ?_
                                      refine ops_fl rfl rfl rfl (fl_move rfl rfl ?_)
                                      apply ops_and (yt := 165) (d := 158) 7 rfl rfl rfl (.yes rfl rfl rfl hb18) rfl rfl
                                      case h1 =>
                                        intro hb29 hK
                                        have hc := hb29; try simp only [decide_eq_true_eq, decide_eq_false_iff_not, Bool.not_eq_true', Bool.not_eq_false', Bool.not_true, Bool.not_false, Int.not_lt, Int.not_le, Bool.and_eq_true, Bool.or_eq_true, Bool.and_eq_false_iff, Bool.or_eq_false_iff, Bool.false_eq_true, Bool.true_eq_false, not_true_eq_false, not_false_eq_true, decide_true, decide_false, true_and, and_true, false_and, and_false, true_or, or_true, false_or, or_false, Bool.true_and, Bool.false_and, Bool.and_true, Bool.and_false, Bool.true_or, Bool.false_or, Bool.or_true, Bool.or_false, Int.reduceEq, Int.reduceNe, Int.reduceLT, Int.reduceLE, Int.toNat_natCast, toNat_add1] at hc
                                        all_goals try (first | contradiction | (exfalso; omega))
                                        all_goals (
                                          refine ops_gyes rfl rfl rfl hb29 ?_
                                          refine ops_fl rfl rfl rfl (fl_move rfl rfl ?_)
                                          refine ops_gyes rfl rfl rfl hb29 ?_
                                          first
                                          | refine ops_fl rfl rfl rfl (fl_nil_blk rfl rfl ?_)
                                          | refine ops_fl rfl rfl rfl (fl_nil_cp rfl rfl ?_)
                                          refine ops_gyes rfl rfl rfl hb29 ?_
                                          first
                                          | refine ops_fl rfl rfl rfl (fl_field_blk ti53 rfl rfl rfl rfl ?_)
                                          | refine ops_fl rfl rfl rfl (fl_field_cp ti53 rfl rfl rfl rfl rfl ?_)
                                          refine ops_gyes rfl rfl rfl hb29 ?_
                                          first
                                          | refine ops_fl rfl rfl rfl (fl_load_blk ti9 rfl rfl rfl rfl rfl rfl rfl ?_)
                                          | refine ops_fl rfl rfl rfl (fl_load_cp ti9 rfl rfl rfl rfl rfl rfl ?_)
                                          refine ops_gyes rfl rfl rfl hb29 ?_
                                          refine ops_fl rfl rfl rfl (fl_move rfl rfl ?_)
                                          refine ops_gyes rfl rfl rfl hb29 ?_
                                          refine ops_fl rfl rfl rfl (fl_byte ut9 rfl rfl rfl (by omega) ?_)
                                          refine ops_gyes rfl rfl rfl hb29 ?_
                                          refine ops_fl rfl rfl rfl (fl_eql rfl rfl rfl ?_)
                                          exact hK [_, _, _, _, _, _, _] rfl rfl)
                                      case h2 =>
                                        intro hb29 hK
                                        refine ops_gno rfl rfl rfl hb29 rfl rfl ?_
                                        refine ops_gno rfl rfl rfl hb29 rfl rfl ?_
                                        refine ops_gno rfl rfl rfl hb29 rfl rfl ?_
                                        refine ops_gno rfl rfl rfl hb29 rfl rfl ?_
                                        refine ops_gno rfl rfl rfl hb29 rfl rfl ?_
                                        refine ops_gno rfl rfl rfl hb29 rfl rfl ?_
                                        refine ops_gno rfl rfl rfl hb29 rfl rfl ?_
                                        exact hK [_, _, _, _, _, _, _] rfl
                                      exact hK [_, _, _, _, _, _] rfl rfl)
                                  case h2 =>
                                    intro hb18 hK
                                    refine ops_gno rfl rfl rfl hb18 rfl rfl ?_
                                    refine ops_gno rfl rfl rfl hb18 rfl rfl ?_
                                    refine ops_gno rfl rfl rfl hb18 rfl rfl ?_
                                    refine ops_gno rfl rfl rfl hb18 rfl rfl ?_
                                    refine ops_gno rfl rfl rfl hb18 rfl rfl ?_
                                    refine ops_guard_undef rfl rfl rfl rfl rfl ?_
                                    refine ops_guard_undef rfl rfl rfl rfl rfl ?_
                                    refine ops_guard_undef rfl rfl rfl rfl rfl ?_
                                    refine ops_guard_undef rfl rfl rfl rfl rfl ?_
                                    refine ops_guard_undef rfl rfl rfl rfl rfl ?_
                                    refine ops_guard_undef rfl rfl rfl rfl rfl ?_
                                    refine ops_guard_undef rfl rfl rfl rfl rfl ?_
                                    refine ops_gno rfl rfl rfl hb18 rfl rfl ?_
                                    exact hK [_, _, _, _, _, _, _, _, _, _, _, _, _] rfl
                                  refine ops_nil ?_
                                  refine seq_normal ?_
                                  refine runs_cond rfl (fun h22 => ?_) (fun h22 => ?_)
                                  · try simp only [decide_eq_true_eq, decide_eq_false_iff_not, Bool.not_eq_true', Bool.not_eq_false', Bool.not_true, Bool.not_false, Int.not_lt, Int.not_le, Bool.and_eq_true, Bool.or_eq_true, Bool.and_eq_false_iff, Bool.or_eq_false_iff, Bool.false_eq_true, Bool.true_eq_false, not_true_eq_false, not_false_eq_true, decide_true, decide_false, true_and, and_true, false_and, and_false, true_or, or_true, false_or, or_false, Bool.true_and, Bool.false_and, Bool.and_true, Bool.and_false, Bool.true_or, Bool.false_or, Bool.or_true, Bool.or_false, Int.reduceEq, Int.reduceNe, Int.reduceLT, Int.reduceLE, Int.toNat_natCast, toNat_add1] at h22
                                    all_goals try (first | contradiction | (exfalso; omega))
                                    all_goals (
                                      refine runs_seq ?_
                                      refine runs_keep [5] rfl ?_
                                      refine runs_region ?_
                                      refine ops_fl rfl rfl rfl (fl_move rfl rfl ?_)
                                      refine ops_fl rfl rfl rfl (fl_assign rfl rfl ?_)
                                      refine ops_fl rfl rfl rfl (fl_assign rfl rfl ?_)
                                      refine ops_fl rfl rfl rfl (fl_assign rfl rfl ?_)
                                      refine ops_nil ?_
                                      refine seq_normal ?_
                                      refine runs_ret ?_
                                      refine inb_ret ?_
                                      refine seq_ret ?_
                                      refine fin_ret ?_
                                      refine fin_od ⟨_, _, rfl, rfl, ⟨_, _, rfl, rfl, ⟨_, _, rfl, rfl, rfl⟩⟩⟩ rfl ([0]) ([.cells [.d (.v (.string s)), .d (.v (.int .i64 p)), .d (.v (.int .i64 c)), .d (.v (.int .i64 a))] 53]) rfl rfl rfl ?_ ?_
                                      · repeat (first | exact .nil | refine .cons rfl (.cells rfl (FitL.rfl _)) ?_ | refine .cons rfl .row ?_ | refine .cons rfl .mapI ?_ | refine .cons rfl .nnrow ?_ | refine .cons rfl .nrow ?_ | refine .cons rfl .dead ?_ | refine .cons rfl (.cells rfl ?_) ?_ | refine .cons (by first | exact .refl _ | exact .toD rfl | exact .nilD) ?_)
                                      · rw [tok_numNo hsp (by omega) (by omega) h11 (by omega) (spanB_runD hinv.2.2 (by omega)) (d := i + 1) (by rw [if_pos (by omega)]) (by omega)]; exact ⟨rfl, rfl⟩
                                    )
                                  · try simp only [decide_eq_true_eq, decide_eq_false_iff_not, Bool.not_eq_true', Bool.not_eq_false', Bool.not_true, Bool.not_false, Int.not_lt, Int.not_le, Bool.and_eq_true, Bool.or_eq_true, Bool.and_eq_false_iff, Bool.or_eq_false_iff, Bool.false_eq_true, Bool.true_eq_false, not_true_eq_false, not_false_eq_true, decide_true, decide_false, true_and, and_true, false_and, and_false, true_or, or_true, false_or, or_false, Bool.true_and, Bool.false_and, Bool.and_true, Bool.and_false, Bool.true_or, Bool.false_or, Bool.or_true, Bool.or_false, Int.reduceEq, Int.reduceNe, Int.reduceLT, Int.reduceLE, Int.toNat_natCast, toNat_add1] at h22
                                    all_goals try (first | contradiction | (exfalso; omega))
                                    all_goals (
                                      refine runs_skip ?_
                                      refine inb_normal ?_
                                      refine seq_normal ?_
                                      refine runs_seq ?_
                                      refine runs_keep [6, 5, 0] rfl ?_
                                      refine runs_region ?_
                                      refine ops_fl rfl rfl rfl (fl_move rfl rfl ?_)
                                      first
                                      | refine ops_fl rfl rfl rfl (fl_nil_blk rfl rfl ?_)
                                      | refine ops_fl rfl rfl rfl (fl_nil_cp rfl rfl ?_)
                                      first
                                      | refine ops_fl rfl rfl rfl (fl_field_blk ti53 rfl rfl rfl rfl ?_)
                                      | refine ops_fl rfl rfl rfl (fl_field_cp ti53 rfl rfl rfl rfl rfl ?_)
                                      first
                                      | refine ops_fl rfl rfl rfl (fl_load_blk ti9 rfl rfl rfl rfl rfl rfl rfl ?_)
                                      | refine ops_fl rfl rfl rfl (fl_load_cp ti9 rfl rfl rfl rfl rfl rfl ?_)
                                      refine ops_fl rfl rfl rfl (fl_move rfl rfl ?_)
                                      refine ops_fl rfl rfl rfl (fl_move rfl rfl ?_)
                                      refine ops_fl rfl rfl rfl (fl_sub_lh ut9 rfl rfl rfl rfl (by omega) ?_)
                                      refine ops_fl rfl rfl rfl (fl_move rfl rfl ?_)
                                      refine ops_fl rfl rfl rfl (fl_assign rfl rfl ?_)
                                      refine ops_fl rfl rfl rfl (fl_assign rfl rfl ?_)
                                      refine ops_fl rfl rfl rfl (fl_assign rfl rfl ?_)
                                      refine ops_nil ?_
                                      refine seq_normal ?_
                                      refine runs_ret ?_
                                      refine fin_ret ?_
                                      refine fin_od ⟨_, _, rfl, rfl, ⟨_, _, rfl, rfl, ⟨_, _, rfl, rfl, rfl⟩⟩⟩ rfl ([0]) ([.cells [.d (.v (.string s)), .d (.v (.int .i64 p)), .d (.v (.int .i64 c)), .d (.v (.int .i64 a))] 53]) rfl rfl rfl ?_ ?_
                                      · repeat (first | exact .nil | refine .cons rfl (.cells rfl (FitL.rfl _)) ?_ | refine .cons rfl .row ?_ | refine .cons rfl .mapI ?_ | refine .cons rfl .nnrow ?_ | refine .cons rfl .nrow ?_ | refine .cons rfl .dead ?_ | refine .cons rfl (.cells rfl ?_) ?_ | refine .cons (by first | exact .refl _ | exact .toD rfl | exact .nilD) ?_)
                                      · rw [tok_num hsp (by omega) (by omega) h11 (by omega) (spanB_runD hinv.2.2 (by omega)) (d := i + 1) (by rw [if_pos (by omega)]) (by omega)]; exact ⟨rfl, rfl⟩
                                    )
                                )
                              · try simp only [decide_eq_true_eq, decide_eq_false_iff_not, Bool.not_eq_true', Bool.not_eq_false', Bool.not_true, Bool.not_false, Int.not_lt, Int.not_le, Bool.and_eq_true, Bool.or_eq_true, Bool.and_eq_false_iff, Bool.or_eq_false_iff, Bool.false_eq_true, Bool.true_eq_false, not_true_eq_false, not_false_eq_true, decide_true, decide_false, true_and, and_true, false_and, and_false, true_or, or_true, false_or, or_false, Bool.true_and, Bool.false_and, Bool.and_true, Bool.and_false, Bool.true_or, Bool.false_or, Bool.or_true, Bool.or_false, Int.reduceEq, Int.reduceNe, Int.reduceLT, Int.reduceLE, Int.toNat_natCast, toNat_add1] at h20
                                all_goals try (first | contradiction | (exfalso; omega))
                                all_goals (
                                  refine runs_skip ?_
                                  refine seq_normal ?_
                                  refine runs_seq ?_
                                  refine runs_keep [9, 6, 5, 0] rfl ?_
                                  refine runs_region ?_
                                  refine ops_fl rfl rfl rfl (fl_move rfl rfl ?_)
                                  refine ops_fl rfl rfl rfl (fl_move rfl rfl ?_)
                                  refine ops_fl rfl rfl rfl (fl_eql rfl rfl rfl ?_)
                                  refine ops_fl rfl rfl rfl (fl_move rfl rfl ?_)
                                  apply ops_or (yt := 151) (d := 147) 4 rfl rfl rfl (.none rfl) rfl rfl
                                  case h1 =>
                                    intro hb6 hK
                                    have hc := hb6; try simp only [decide_eq_true_eq, decide_eq_false_iff_not, Bool.not_eq_true', Bool.not_eq_false', Bool.not_true, Bool.not_false, Int.not_lt, Int.not_le, Bool.and_eq_true, Bool.or_eq_true, Bool.and_eq_false_iff, Bool.or_eq_false_iff, Bool.false_eq_true, Bool.true_eq_false, not_true_eq_false, not_false_eq_true, decide_true, decide_false, true_and, and_true, false_and, and_false, true_or, or_true, false_or, or_false, Bool.true_and, Bool.false_and, Bool.and_true, Bool.and_false, Bool.true_or, Bool.false_or, Bool.or_true, Bool.or_false, Int.reduceEq, Int.reduceNe, Int.reduceLT, Int.reduceLE, Int.toNat_natCast, toNat_add1] at hc
                                    all_goals try (first | contradiction | (exfalso; omega))
                                    all_goals (
                                      refine ops_gyes rfl rfl rfl hb6 ?_
                                      refine ops_fl rfl rfl rfl (fl_move rfl rfl ?_)
                                      refine ops_gyes rfl rfl rfl hb6 ?_
                                      refine ops_fl rfl rfl rfl (fl_move rfl rfl ?_)
                                      refine ops_gyes rfl rfl rfl hb6 ?_
                                      refine ops_fl rfl rfl rfl (fl_sub rfl rfl rfl (by omega) ?_)
                                      refine ops_gyes rfl rfl rfl hb6 ?_
                                      refine ops_fl rfl rfl rfl (fl_gtr rfl rfl rfl ?_)
                                      exact hK [_, _, _, _] rfl rfl)
                                  case h2 =>
                                    intro hb6 hK
                                    refine ops_gno rfl rfl rfl hb6 rfl rfl ?_
                                    refine ops_gno rfl rfl rfl hb6 rfl rfl ?_
                                    refine ops_gno rfl rfl rfl hb6 rfl rfl ?_
                                    refine ops_gno rfl rfl rfl hb6 rfl rfl ?_
                                    exact hK [_, _, _, _] rfl
                                  refine ops_fl rfl rfl rfl (fl_move rfl rfl ?_)
                                  apply ops_or (yt := 166) (d := 153) 13 rfl rfl rfl (.none rfl) rfl rfl
                                  case h1 =>
                                    intro hb18 hK
                                    have hc := hb18; try simp only [decide_eq_true_eq, decide_eq_false_iff_not, Bool.not_eq_true', Bool.not_eq_false', Bool.not_true, Bool.not_false, Int.not_lt, Int.not_le, Bool.and_eq_true, Bool.or_eq_true, Bool.and_eq_false_iff, Bool.or_eq_false_iff, Bool.false_eq_true, Bool.true_eq_false, not_true_eq_false, not_false_eq_true, decide_true, decide_false, true_and, and_true, false_and, and_false, true_or, or_true, false_or, or_false, Bool.true_and, Bool.false_and, Bool.and_true, Bool.and_false, Bool.true_or, Bool.false_or, Bool.or_true, Bool.or_false, Int.reduceEq, Int.reduceNe, Int.reduceLT, Int.reduceLE, Int.toNat_natCast, toNat_add1] at hc
                                    all_goals try (first | contradiction | (exfalso; omega))
                                    all_goals (
                                      refine ops_gyes rfl rfl rfl hb18 ?_
                                      refine ops_fl rfl rfl rfl (fl_move rfl rfl ?_)
                                      refine ops_gyes rfl rfl rfl hb18 ?_
                                      refine ops_fl rfl rfl rfl (fl_move rfl rfl ?_)
                                      refine ops_gyes rfl rfl rfl hb18 ?_
                                      refine ops_fl rfl rfl rfl (fl_sub rfl rfl rfl (by omega) ?_)
                                      refine ops_gyes rfl rfl rfl hb18 ?_
                                      refine ops_fl rfl rfl rfl (fl_gtr rfl rfl rfl ?_)
                                      refine ops_gyes rfl rfl rfl hb18 ?_
                                      refine ops_fl rfl rfl rfl (fl_move rfl rfl ?_)
                                      apply ops_and (yt := 165) (d := 158) 7 rfl rfl rfl (.yes rfl rfl rfl hb18) rfl rfl
                                      case h1 =>
                                        intro hb29 hK
                                        have hc := hb29; try simp only [decide_eq_true_eq, decide_eq_false_iff_not, Bool.not_eq_true', Bool.not_eq_false', Bool.not_true, Bool.not_false, Int.not_lt, Int.not_le, Bool.and_eq_true, Bool.or_eq_true, Bool.and_eq_false_iff, Bool.or_eq_false_iff, Bool.false_eq_true, Bool.true_eq_false, not_true_eq_false, not_false_eq_true, decide_true, decide_false, true_and, and_true, false_and, and_false, true_or, or_true, false_or, or_false, Bool.true_and, Bool.false_and, Bool.and_true, Bool.and_false, Bool.true_or, Bool.false_or, Bool.or_true, Bool.or_false, Int.reduceEq, Int.reduceNe, Int.reduceLT, Int.reduceLE, Int.toNat_natCast, toNat_add1] at hc
                                        all_goals try (first | contradiction | (exfalso; omega))
                                        all_goals (
                                          refine ops_gyes rfl rfl rfl hb29 ?_
                                          refine ops_fl rfl rfl rfl (fl_move rfl rfl ?_)
                                          refine ops_gyes rfl rfl rfl hb29 ?_
                                          first
                                          | refine ops_fl rfl rfl rfl (fl_nil_blk rfl rfl ?_)
                                          | refine ops_fl rfl rfl rfl (fl_nil_cp rfl rfl ?_)
                                          refine ops_gyes rfl rfl rfl hb29 ?_
                                          first
                                          | refine ops_fl rfl rfl rfl (fl_field_blk ti53 rfl rfl rfl rfl ?_)
                                          | refine ops_fl rfl rfl rfl (fl_field_cp ti53 rfl rfl rfl rfl rfl ?_)
                                          refine ops_gyes rfl rfl rfl hb29 ?_
                                          first
                                          | refine ops_fl rfl rfl rfl (fl_load_blk ti9 rfl rfl rfl rfl rfl rfl rfl ?_)
                                          | refine ops_fl rfl rfl rfl (fl_load_cp ti9 rfl rfl rfl rfl rfl rfl ?_)
                                          refine ops_gyes rfl rfl rfl hb29 ?_
                                          refine ops_fl rfl rfl rfl (fl_move rfl rfl ?_)
                                          refine ops_gyes rfl rfl rfl hb29 ?_
                                          refine ops_fl rfl rfl rfl (fl_byte ut9 rfl rfl rfl (by omega) ?_)
                                          refine ops_gyes rfl rfl rfl hb29 ?_
                                          refine ops_fl rfl rfl rfl (fl_eql rfl rfl rfl ?_)
                                          exact hK [_, _, _, _, _, _, _] rfl rfl)
                                      case h2 =>
                                        intro hb29 hK
                                        refine ops_gno rfl rfl rfl hb29 rfl rfl ?_
                                        refine ops_gno rfl rfl rfl hb29 rfl rfl ?_
                                        refine ops_gno rfl rfl rfl hb29 rfl rfl ?_
                                        refine ops_gno rfl rfl rfl hb29 rfl rfl ?_
                                        refine ops_gno rfl rfl rfl hb29 rfl rfl ?_
                                        refine ops_gno rfl rfl rfl hb29 rfl rfl ?_
                                        refine ops_gno rfl rfl rfl hb29 rfl rfl ?_
                                        exact hK [_, _, _, _, _, _, _] rfl
                                      exact hK [_, _, _, _, _, _] rfl rfl)
                                  case h2 =>
                                    intro hb18 hK
                                    refine ops_gno rfl rfl rfl hb18 rfl rfl ?_
                                    refine ops_gno rfl rfl rfl hb18 rfl rfl ?_
                                    refine ops_gno rfl rfl rfl hb18 rfl rfl ?_
                                    refine ops_gno rfl rfl rfl hb18 rfl rfl ?_
                                    refine ops_gno rfl rfl rfl hb18 rfl rfl ?_
                                    refine ops_guard_undef rfl rfl rfl rfl rfl ?_
                                    refine ops_guard_undef rfl rfl rfl rfl rfl ?_
                                    refine ops_guard_undef rfl rfl rfl rfl rfl ?_
                                    refine ops_guard_undef rfl rfl rfl rfl rfl ?_
                                    refine ops_guard_undef rfl rfl rfl rfl rfl ?_
                                    refine ops_guard_undef rfl rfl rfl rfl rfl ?_
                                    refine ops_guard_undef rfl rfl rfl rfl rfl ?_
                                    refine ops_gno rfl rfl rfl hb18 rfl rfl ?_
                                    exact hK [_, _, _, _, _, _, _, _, _, _, _, _, _] rfl
                                  refine ops_nil ?_
                                  refine seq_normal ?_
                                  refine runs_cond rfl (fun h22 => ?_) (fun h22 => ?_)
                                  · try simp only [decide_eq_true_eq, decide_eq_false_iff_not, Bool.not_eq_true', Bool.not_eq_false', Bool.not_true, Bool.not_false, Int.not_lt, Int.not_le, Bool.and_eq_true, Bool.or_eq_true, Bool.and_eq_false_iff, Bool.or_eq_false_iff, Bool.false_eq_true, Bool.true_eq_false, not_true_eq_false, not_false_eq_true, decide_true, decide_false, true_and, and_true, false_and, and_false, true_or, or_true, false_or, or_false, Bool.true_and, Bool.false_and, Bool.and_true, Bool.and_false, Bool.true_or, Bool.false_or, Bool.or_true, Bool.or_false, Int.reduceEq, Int.reduceNe, Int.reduceLT, Int.reduceLE, Int.toNat_natCast, toNat_add1] at h22
                                    all_goals try (first | contradiction | (exfalso; omega))
                                    all_goals (
                                      refine runs_seq ?_
                                      refine runs_keep [5] rfl ?_
                                      refine runs_region ?_
                                      refine ops_fl rfl rfl rfl (fl_move rfl rfl ?_)
                                      refine ops_fl rfl rfl rfl (fl_assign rfl rfl ?_)
                                      refine ops_fl rfl rfl rfl (fl_assign rfl rfl ?_)
                                      refine ops_fl rfl rfl rfl (fl_assign rfl rfl ?_)
                                      refine ops_nil ?_
                                      refine seq_normal ?_
                                      refine runs_ret ?_
                                      refine inb_ret ?_
                                      refine seq_ret ?_
                                      refine fin_ret ?_
                                      refine fin_od ⟨_, _, rfl, rfl, ⟨_, _, rfl, rfl, ⟨_, _, rfl, rfl, rfl⟩⟩⟩ rfl ([0]) ([.cells [.d (.v (.string s)), .d (.v (.int .i64 p)), .d (.v (.int .i64 c)), .d (.v (.int .i64 a))] 53]) rfl rfl rfl ?_ ?_
                                      · repeat (first | exact .nil | refine .cons rfl (.cells rfl (FitL.rfl _)) ?_ | refine .cons rfl .row ?_ | refine .cons rfl .mapI ?_ | refine .cons rfl .nnrow ?_ | refine .cons rfl .nrow ?_ | refine .cons rfl .dead ?_ | refine .cons rfl (.cells rfl ?_) ?_ | refine .cons (by first | exact .refl _ | exact .toD rfl | exact .nilD) ?_)
                                      · rw [tok_numNo hsp (by omega) (by omega) h11 (by omega) (spanB_runD hinv.2.2 (by omega)) (d := i) (by rw [if_neg (by omega)]) (by omega)]; exact ⟨rfl, rfl⟩
                                    )
                                  · try simp only [decide_eq_true_eq, decide_eq_false_iff_not, Bool.not_eq_true', Bool.not_eq_false', Bool.not_true, Bool.not_false, Int.not_lt, Int.not_le, Bool.and_eq_true, Bool.or_eq_true, Bool.and_eq_false_iff, Bool.or_eq_false_iff, Bool.false_eq_true, Bool.true_eq_false, not_true_eq_false, not_false_eq_true, decide_true, decide_false, true_and, and_true, false_and, and_false, true_or, or_true, false_or, or_false, Bool.true_and, Bool.false_and, Bool.and_true, Bool.and_false, Bool.true_or, Bool.false_or, Bool.or_true, Bool.or_false, Int.reduceEq, Int.reduceNe, Int.reduceLT, Int.reduceLE, Int.toNat_natCast, toNat_add1] at h22
                                    all_goals try (first | contradiction | (exfalso; omega))
                                    all_goals (
                                      refine runs_skip ?_
                                      refine inb_normal ?_
                                      refine seq_normal ?_
                                      refine runs_seq ?_
                                      refine runs_keep [6, 5, 0] rfl ?_
                                      refine runs_region ?_
                                      refine ops_fl rfl rfl rfl (fl_move rfl rfl ?_)
                                      first
                                      | refine ops_fl rfl rfl rfl (fl_nil_blk rfl rfl ?_)
                                      | refine ops_fl rfl rfl rfl (fl_nil_cp rfl rfl ?_)
                                      first
                                      | refine ops_fl rfl rfl rfl (fl_field_blk ti53 rfl rfl rfl rfl ?_)
                                      | refine ops_fl rfl rfl rfl (fl_field_cp ti53 rfl rfl rfl rfl rfl ?_)
                                      first
                                      | refine ops_fl rfl rfl rfl (fl_load_blk ti9 rfl rfl rfl rfl rfl rfl rfl ?_)
                                      | refine ops_fl rfl rfl rfl (fl_load_cp ti9 rfl rfl rfl rfl rfl rfl ?_)
                                      refine ops_fl rfl rfl rfl (fl_move rfl rfl ?_)
                                      refine ops_fl rfl rfl rfl (fl_move rfl rfl ?_)
                                      refine ops_fl rfl rfl rfl (fl_sub_lh ut9 rfl rfl rfl rfl (by omega) ?_)
                                      refine ops_fl rfl rfl rfl (fl_move rfl rfl ?_)
                                      refine ops_fl rfl rfl rfl (fl_assign rfl rfl ?_)
                                      refine ops_fl rfl rfl rfl (fl_assign rfl rfl ?_)
                                      refine ops_fl rfl rfl rfl (fl_assign rfl rfl ?_)
                                      refine ops_nil ?_
                                      refine seq_normal ?_
                                      refine runs_ret ?_
                                      refine fin_ret ?_
                                      refine fin_od ⟨_, _, rfl, rfl, ⟨_, _, rfl, rfl, ⟨_, _, rfl, rfl, rfl⟩⟩⟩ rfl ([0]) ([.cells [.d (.v (.string s)), .d (.v (.int .i64 p)), .d (.v (.int .i64 c)), .d (.v (.int .i64 a))] 53]) rfl rfl rfl ?_ ?_
                                      · repeat (first | exact .nil | refine .cons rfl (.cells rfl (FitL.rfl _)) ?_ | refine .cons rfl .row ?_ | refine .cons rfl .mapI ?_ | refine .cons rfl .nnrow ?_ | refine .cons rfl .nrow ?_ | refine .cons rfl .dead ?_ | refine .cons rfl (.cells rfl ?_) ?_ | refine .cons (by first | exact .refl _ | exact .toD rfl | exact .nilD) ?_)
                                      · rw [tok_num hsp (by omega) (by omega) h11 (by omega) (spanB_runD hinv.2.2 (by omega)) (d := i) (by rw [if_neg (by omega)]) (by omega)]; exact ⟨rfl, rfl⟩
                                    )
                                )
                            )
                      )
                    · try simp only [decide_eq_true_eq, decide_eq_false_iff_not, Bool.not_eq_true', Bool.not_eq_false', Bool.not_true, Bool.not_false, Int.not_lt, Int.not_le, Bool.and_eq_true, Bool.or_eq_true, Bool.and_eq_false_iff, Bool.or_eq_false_iff, Bool.false_eq_true, Bool.true_eq_false, not_true_eq_false, not_false_eq_true, decide_true, decide_false, true_and, and_true, false_and, and_false, true_or, or_true, false_or, or_false, Bool.true_and, Bool.false_and, Bool.and_true, Bool.and_false, Bool.true_or, Bool.false_or, Bool.or_true, Bool.or_false, Int.reduceEq, Int.reduceNe, Int.reduceLT, Int.reduceLE, Int.toNat_natCast, toNat_add1] at h16
                      all_goals try (first | contradiction | (exfalso; omega))
                      all_goals (
                        refine runs_seq ?_
                        refine runs_keep [5] rfl ?_
                        refine runs_region ?_
                        refine ops_fl rfl rfl rfl (fl_move rfl rfl ?_)
                        refine ops_fl rfl rfl rfl (fl_assign rfl rfl ?_)
                        refine ops_fl rfl rfl rfl (fl_assign rfl rfl ?_)
                        refine ops_fl rfl rfl rfl (fl_assign rfl rfl ?_)
                        refine ops_nil ?_
                        refine seq_normal ?_
                        refine runs_ret ?_
                        refine inb_ret ?_
                        refine seq_ret ?_
                        refine fin_ret ?_
                        refine fin_od ⟨_, _, rfl, rfl, ⟨_, _, rfl, rfl, ⟨_, _, rfl, rfl, rfl⟩⟩⟩ rfl ([0]) ([.cells [.d (.v (.string s)), .d (.v (.int .i64 p)), .d (.v (.int .i64 c)), .d (.v (.int .i64 a))] 53]) rfl rfl rfl ?_ ?_
                        · repeat (first | exact .nil | refine .cons rfl (.cells rfl (FitL.rfl _)) ?_ | refine .cons rfl .row ?_ | refine .cons rfl .mapI ?_ | refine .cons rfl .nnrow ?_ | refine .cons rfl .nrow ?_ | refine .cons rfl .dead ?_ | refine .cons rfl (.cells rfl ?_) ?_ | refine .cons (by first | exact .refl _ | exact .toD rfl | exact .nilD) ?_)
                        · rw [tok_none hsp (by omega) (by omega) h11 (by omega)]; exact ⟨rfl, rfl⟩
                      )
                  )
              )
          )
      )
end Go.Proofs.YtafhnnbbfgoacaaDoor
