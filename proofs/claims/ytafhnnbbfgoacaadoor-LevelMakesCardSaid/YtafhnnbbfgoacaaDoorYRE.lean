/-
  What is proved here: levelsMade: what the program makes of levels is what the reference makes of them.
-/
import Derived.Test.YtafhnnbbfgoacaaDoorYRD
set_option linter.unusedSimpArgs false
set_option linter.unusedVariables false
namespace Go.Proofs.YtafhnnbbfgoacaaDoor
open Go Go.Vd Go.RowKit
attribute [local irreducible] Runs OpsR OpR FloatR AnyR AnyO
variable {gl : Nat → List D}

mutual
theorem same_refl : ∀ l : Lvl, Lvl.same l l = true
  | .mk k s a => by rw [Lvl.same_eq, sameL_refl a]; simp
theorem sameL_refl : ∀ l : List Lvl, sameL l l = true
  | [] => rfl
  | l :: r => by
    have h1 := same_refl l
    have h2 := sameL_refl r
    unfold sameL
    simp [h1, h2]
end
mutual
theorem subst_size (ps : List ByteArray) (ls : List Lvl) (M : Nat) (hM : 1 ≤ M) (hl : ∀ l ∈ ls, l.size ≤ M) : ∀ l : Lvl, (l.subst ps ls).size ≤ l.size * M
  | .mk k s args => by
    have h := substL_size ps ls M hM hl args
    simp only [Lvl.subst, Lvl.size]
    rw [Nat.add_mul, Nat.one_mul]
    split
    · split
      · rename_i i hi
        rw [List.getD_eq_getElem?_getD]
        cases hg : ls[i]? with
        | none =>
          have : sizes args ≤ sizes args * M := Nat.le_mul_of_pos_right _ hM
          simp [Lvl.size]; omega
        | some x => simp only [Option.getD_some]; have := hl x (List.mem_of_getElem? hg); omega
      · simp only [Lvl.size]
        have : sizes args ≤ sizes args * M := Nat.le_mul_of_pos_right _ hM
        omega
    · simp only [Lvl.size]; omega
theorem substL_size (ps : List ByteArray) (ls : List Lvl) (M : Nat) (hM : 1 ≤ M) (hl : ∀ l ∈ ls, l.size ≤ M) : ∀ l : List Lvl, sizes (substL ps ls l) ≤ sizes l * M
  | [] => by simp [substL, sizes]
  | a :: r => by
    have h1 := subst_size ps ls M hM hl a
    have h2 := substL_size ps ls M hM hl r
    simp only [substL, sizes, Nat.add_mul]; omega
end
/-- a step of a script -/
def opD (K : Int) (S T U : ByteArray) (A B : Int) : D := .agg [.v (.int .i64 K), .v (.string S), .v (.string T), .v (.string U), .v (.int .i64 A), .v (.int .i64 B)]
def i64 (n : Int) : Prop := -9223372036854775808 ≤ n ∧ n ≤ 9223372036854775807
theorem lim_bound (n : Int) : 0 ≤ (if n < 0 then (-(n + 1)) % 6 else n % 6) ∧ (if n < 0 then (-(n + 1)) % 6 else n % 6) ≤ 5 := by split <;> omega

theorem made_spec (hw : gl 0 = wordsD) (K : Int) (S T U : ByteArray) (A B : Int) (hA : i64 A) (hB : i64 B) : TriD Tryd.prog gl 6 [opD K S T U A B] (· = .v (.bool true)) := by
  obtain ⟨x, hx, fx, wx⟩ := parseR_lev S
  obtain ⟨y, hy, fy, wy⟩ := parseR_lev T
  have pa := parseLevel_spec (gl := gl) S
  have pb := parseLevel_spec (gl := gl) T
  rw [hx] at pa
  rw [hy] at pb
  obtain ⟨ka, na, aa, ea⟩ := Lvl.case x.toLvl
  obtain ⟨kb, nb, ab, eb⟩ := Lvl.case y.toLvl
  have sx := x.size_toLvl
  have sy := y.size_toLvl
  have wsx := x.size_le_weight
  have wsy := y.size_le_weight
  have hpx := x.print_size
  have hpr := printLevel_spec (gl := gl) x (by omega)
  have hwr := wr_lev x
  have hep := eachP_lev x []
  have hpar := x.params_toLvl []
  have hplen := x.toLvl.params_len []
  have lA := lim_bound A
  have lB := lim_bound B
  have hns : ∀ n ∈ [(if A < 0 then (-(A + 1)) % 6 else A % 6), (if B < 0 then (-(B + 1)) % 6 else B % 6)], -1099511627776 ≤ n ∧ n ≤ 1099511627776 := by
    intro n hn
    simp only [List.mem_cons, List.not_mem_nil, or_false] at hn
    rcases hn with rfl | rfl <;> omega
  have hW := worth_spec (gl := gl) [⟨#[117]⟩, ⟨#[118]⟩] _ (by simp) (by simp) hns x (by omega)
  have hW2 := pworth_spec (gl := gl) [⟨#[117]⟩, ⟨#[118]⟩] _ (by simp) (by simp) hns x (by omega)
  have hss := subst_size [⟨#[117]⟩, ⟨#[119]⟩, ⟨#[117]⟩] [y.toLvl, x.toLvl, x.toLvl] 400010 (by omega) (by
    intro l hl
    simp only [List.mem_cons, List.not_mem_nil, or_false] at hl
    rcases hl with rfl | rfl | rfl <;> omega) x.toLvl
  have hss2 : (x.toLvl.subst [⟨#[117]⟩, ⟨#[119]⟩, ⟨#[117]⟩] [y.toLvl, x.toLvl, x.toLvl]).size ≤ 1099511627776 := by
    refine Nat.le_trans hss (Nat.le_trans (Nat.mul_le_mul_right _ (show x.toLvl.size ≤ 400010 by omega)) (by decide))
  have hsame := same_refl (x.toLvl.subst [⟨#[117]⟩, ⟨#[119]⟩, ⟨#[117]⟩] [y.toLvl, x.toLvl, x.toLvl])
  rw [ea] at pa fx hpr hwr hep hpar hplen hss2 hsame sx hW hW2
  rw [eb] at pb fy hss2 hsame sy
  obtain ⟨ku, nu, au, eu⟩ := Lvl.case ((Lvl.mk ka na aa).subst [⟨#[117]⟩, ⟨#[119]⟩, ⟨#[117]⟩] [.mk kb nb ab, .mk ka na aa, .mk ka na aa])
  rw [eu] at hss2 hsame
  unfold opD
  refine triD_of_runs Tryd.func6 rfl Tryd.ntmps6 (rs := [.tmp 2]) rfl rfl rfl ?_
  refine runs_seq ?_
  refine runs_region ?_
  refine ops_cons (T := fun _ => False) rfl (op_box ti25 rfl rfl rfl rfl rfl (by simp only [List.length_cons, List.length_nil, Nat.reduceAdd]; rfl) rfl ?_)
  refine ops_fl rfl rfl rfl (fl_assign rfl rfl ?_)
  refine ops_nil ?_
  refine seq_normal ?_
  refine runs_seq ?_
  refine runs_region ?_
  first
  | refine ops_fl rfl rfl rfl (fl_field_blk ti25 rfl rfl rfl rfl ?_)
  | refine ops_fl rfl rfl rfl (fl_field_cp ti25 rfl rfl rfl rfl rfl ?_)
  first
  | refine ops_fl rfl rfl rfl (fl_load_blk ti9 rfl rfl rfl rfl rfl rfl rfl ?_)
  | refine ops_fl rfl rfl rfl (fl_load_cp ti9 rfl rfl rfl rfl rfl rfl ?_)
  refine ops_cons (T := fun _ => False) rfl (op_call ca9 rfl rfl rfl rfl (pa) (.cons (by first | exact .refl _ | exact .toD rfl | exact .nilD | exact .dle rfl (by repeat' (first | exact DLe.refl _ | exact DLe.nil | exact DLeL.nil | exact DLeLL.nil | apply DLe.agg | apply DLe.tup | apply DLe.sl | apply DLe.cp | apply DLeL.cons | apply DLeLL.cons))) .nil) (fun d hd => ?_))
  obtain rfl := hd
  refine ops_fl rfl rfl rfl (fl_move rfl rfl ?_)
  first
  | refine ops_fl rfl rfl rfl (fl_extract rfl rfl rfl ?_)
  | refine ops_fl rfl rfl rfl (fl_extract_d rfl rfl rfl ?_)
  first
  | refine ops_fl rfl rfl rfl (fl_extract rfl rfl rfl ?_)
  | refine ops_fl rfl rfl rfl (fl_extract_d rfl rfl rfl ?_)
  refine ops_cons (T := fun _ => False) rfl (op_alloc ti31 rfl rfl rfl rfl rfl (by simp only [List.length_cons, List.length_nil, Nat.reduceAdd]; rfl) rfl ?_)
  refine ops_cons (T := fun _ => False) rfl (op_alloc ti33 rfl rfl rfl rfl rfl (by simp only [List.length_cons, List.length_nil, Nat.reduceAdd]; rfl) rfl ?_)
  refine ops_cons rfl (op_store ti31 rfl rfl rfl rfl rfl rfl rfl rfl rfl rfl rfl ?_)
  refine ops_cons rfl (op_store ti33 rfl rfl rfl rfl rfl rfl rfl rfl rfl rfl rfl ?_)
  refine ops_nil ?_
  refine seq_normal ?_
  refine runs_seq ?_
  refine runs_keep [4, 3, 1] rfl ?_
  refine runs_region ?_
  first
  | refine ops_fl rfl rfl rfl (fl_field_blk ti25 rfl rfl rfl rfl ?_)
  | refine ops_fl rfl rfl rfl (fl_field_cp ti25 rfl rfl rfl rfl rfl ?_)
  first
  | refine ops_fl rfl rfl rfl (fl_load_blk ti9 rfl rfl rfl rfl rfl rfl rfl ?_)
  | refine ops_fl rfl rfl rfl (fl_load_cp ti9 rfl rfl rfl rfl rfl rfl ?_)
  refine ops_cons (T := fun _ => False) rfl (op_call ca9 rfl rfl rfl rfl (pb) (.cons (by first | exact .refl _ | exact .toD rfl | exact .nilD | exact .dle rfl (by repeat' (first | exact DLe.refl _ | exact DLe.nil | exact DLeL.nil | exact DLeLL.nil | apply DLe.agg | apply DLe.tup | apply DLe.sl | apply DLe.cp | apply DLeL.cons | apply DLeLL.cons))) .nil) (fun d hd => ?_))
  obtain rfl := hd
  refine ops_fl rfl rfl rfl (fl_move rfl rfl ?_)
  first
  | refine ops_fl rfl rfl rfl (fl_extract rfl rfl rfl ?_)
  | refine ops_fl rfl rfl rfl (fl_extract_d rfl rfl rfl ?_)
  first
  | refine ops_fl rfl rfl rfl (fl_extract rfl rfl rfl ?_)
  | refine ops_fl rfl rfl rfl (fl_extract_d rfl rfl rfl ?_)
  refine ops_cons (T := fun _ => False) rfl (op_alloc ti31 rfl rfl rfl rfl rfl (by simp only [List.length_cons, List.length_nil, Nat.reduceAdd]; rfl) rfl ?_)
  refine ops_cons (T := fun _ => False) rfl (op_alloc ti33 rfl rfl rfl rfl rfl (by simp only [List.length_cons, List.length_nil, Nat.reduceAdd]; rfl) rfl ?_)
  refine ops_cons rfl (op_store ti31 rfl rfl rfl rfl rfl rfl rfl rfl rfl rfl rfl ?_)
  refine ops_cons rfl (op_store ti33 rfl rfl rfl rfl rfl rfl rfl rfl rfl rfl rfl ?_)
  refine ops_nil ?_
  refine seq_normal ?_
  refine runs_seq ?_
  refine runs_seq ?_
  refine runs_keep [6, 5, 4, 3, 1] rfl ?_
  refine runs_region ?_
  first
  | refine ops_fl rfl rfl rfl (fl_field_blk ti33 rfl rfl rfl rfl ?_)
  | refine ops_fl rfl rfl rfl (fl_field_cp ti33 rfl rfl rfl rfl rfl ?_)
  first
  | refine ops_fl rfl rfl rfl (fl_load_blk ti3 rfl rfl rfl rfl rfl rfl rfl ?_)
  | refine ops_fl rfl rfl rfl (fl_load_cp ti3 rfl rfl rfl rfl rfl rfl ?_)
  refine ops_fl rfl rfl rfl (fl_neq rfl rfl rfl ?_)
  refine ops_fl rfl rfl rfl (fl_move rfl rfl ?_)
  apply ops_or (yt := 32) (d := 29) 3 rfl rfl rfl (.none rfl) rfl rfl
  case h1 =>
    intro hb6 hK
    have hc := hb6; try simp only [decide_eq_true_eq, decide_eq_false_iff_not, Bool.not_eq_true', Bool.not_eq_false', Bool.not_true, Bool.not_false, Int.not_lt, Int.not_le, Bool.and_eq_true, Bool.or_eq_true, Bool.and_eq_false_iff, Bool.or_eq_false_iff, Bool.false_eq_true, Bool.true_eq_false, not_true_eq_false, not_false_eq_true, decide_true, decide_false, true_and, and_true, false_and, and_false, true_or, or_true, false_or, or_false, Bool.true_and, Bool.false_and, Bool.and_true, Bool.and_false, Bool.true_or, Bool.false_or, Bool.or_true, Bool.or_false, Int.reduceEq, Int.reduceNe, Int.reduceLT, Int.reduceLE, Int.toNat_natCast, toNat_add1] at hc
    all_goals try (first | contradiction | (exfalso; omega))
    all_goals (
      refine ops_gyes rfl rfl rfl hb6 ?_
      first
      | refine ops_fl rfl rfl rfl (fl_field_blk ti33 rfl rfl rfl rfl ?_)
      | refine ops_fl rfl rfl rfl (fl_field_cp ti33 rfl rfl rfl rfl rfl ?_)
      refine ops_gyes rfl rfl rfl hb6 ?_
      first
      | refine ops_fl rfl rfl rfl (fl_load_blk ti3 rfl rfl rfl rfl rfl rfl rfl ?_)
      | refine ops_fl rfl rfl rfl (fl_load_cp ti3 rfl rfl rfl rfl rfl rfl ?_)
      refine ops_gyes rfl rfl rfl hb6 ?_
      refine ops_fl rfl rfl rfl (fl_neq rfl rfl rfl ?_)
      exact hK [_, _, _] rfl rfl)
  case h2 =>
    intro hb6 hK
    refine ops_gno rfl rfl rfl hb6 rfl rfl ?_
    refine ops_gno rfl rfl rfl hb6 rfl rfl ?_
    refine ops_gno rfl rfl rfl hb6 rfl rfl ?_
    exact hK [_, _, _] rfl
  refine ops_nil ?_
  refine seq_normal ?_
  refine runs_cond rfl (fun h3 => ?_) (fun h3 => ?_)
  · try simp only [decide_eq_true_eq, decide_eq_false_iff_not, Bool.not_eq_true', Bool.not_eq_false', Bool.not_true, Bool.not_false, Int.not_lt, Int.not_le, Bool.and_eq_true, Bool.or_eq_true, Bool.and_eq_false_iff, Bool.or_eq_false_iff, Bool.false_eq_true, Bool.true_eq_false, not_true_eq_false, not_false_eq_true, decide_true, decide_false, true_and, and_true, false_and, and_false, true_or, or_true, false_or, or_false, Bool.true_and, Bool.false_and, Bool.and_true, Bool.and_false, Bool.true_or, Bool.false_or, Bool.or_true, Bool.or_false, Int.reduceEq, Int.reduceNe, Int.reduceLT, Int.reduceLE, Int.toNat_natCast, toNat_add1] at h3
    all_goals try (first | contradiction | (exfalso; omega))
    all_goals (
      refine runs_seq ?_
      refine runs_keep [] rfl ?_
      refine runs_region ?_
      refine ops_fl rfl rfl rfl (fl_assign rfl rfl ?_)
      refine ops_nil ?_
      refine seq_normal ?_
      refine runs_ret ?_
      refine seq_ret ?_
      refine fin_ret ?_
      refine fin_d1 rfl rfl ?_
      rfl
    )
  · try simp only [decide_eq_true_eq, decide_eq_false_iff_not, Bool.not_eq_true', Bool.not_eq_false', Bool.not_true, Bool.not_false, Int.not_lt, Int.not_le, Bool.and_eq_true, Bool.or_eq_true, Bool.and_eq_false_iff, Bool.or_eq_false_iff, Bool.false_eq_true, Bool.true_eq_false, not_true_eq_false, not_false_eq_true, decide_true, decide_false, true_and, and_true, false_and, and_false, true_or, or_true, false_or, or_false, Bool.true_and, Bool.false_and, Bool.and_true, Bool.and_false, Bool.true_or, Bool.false_or, Bool.or_true, Bool.or_false, Int.reduceEq, Int.reduceNe, Int.reduceLT, Int.reduceLE, Int.toNat_natCast, toNat_add1] at h3
    all_goals try (first | contradiction | (exfalso; omega))
    all_goals (
      refine runs_skip ?_
      refine seq_normal ?_
      refine runs_seq ?_
      refine runs_keep [5, 3, 1] rfl ?_
      refine runs_region ?_
      first
      | refine ops_fl rfl rfl rfl (fl_load_blk ti31 rfl rfl rfl rfl rfl rfl rfl ?_)
      | refine ops_fl rfl rfl rfl (fl_load_cp ti31 rfl rfl rfl rfl rfl rfl ?_)
      | refine ops_fl rfl rfl rfl (fl_load_all ti31 rfl rfl rfl rfl (by first | rfl | exact Lvl.cells_len _) ?_)
      refine ops_cons (T := fun _ => False) rfl (op_call ca15 rfl rfl rfl rfl (pprint_spec hw ka na aa (by omega) fx (by rw [hwr]; omega)) (.cons (by first | exact .refl _ | exact .toD rfl | exact .nilD | exact .dle rfl (by repeat' (first | exact DLe.refl _ | exact DLe.nil | exact DLeL.nil | exact DLeLL.nil | apply DLe.agg | apply DLe.tup | apply DLe.sl | apply DLe.cp | apply DLeL.cons | apply DLeLL.cons))) .nil) (fun d hd => ?_))
      obtain rfl := hd
      refine ops_fl rfl rfl rfl (fl_assign rfl rfl ?_)
      refine ops_nil ?_
      refine seq_normal ?_
      refine runs_seq ?_
      refine runs_region ?_
      first
      | refine ops_fl rfl rfl rfl (fl_load_blk ti31 rfl rfl rfl rfl rfl rfl rfl ?_)
      | refine ops_fl rfl rfl rfl (fl_load_cp ti31 rfl rfl rfl rfl rfl rfl ?_)
      | refine ops_fl rfl rfl rfl (fl_load_all ti31 rfl rfl rfl rfl (by first | rfl | exact Lvl.cells_len _) ?_)
      refine ops_cons (T := fun _ => False) rfl (op_call ca17 rfl rfl rfl rfl (pparams_spec ka na aa (by omega)) (.cons (by first | exact .refl _ | exact .toD rfl | exact .nilD | exact .dle rfl (by repeat' (first | exact DLe.refl _ | exact DLe.nil | exact DLeL.nil | exact DLeLL.nil | apply DLe.agg | apply DLe.tup | apply DLe.sl | apply DLe.cp | apply DLeL.cons | apply DLeLL.cons))) .nil) (fun d hd => ?_))
      obtain rfl := hd
      refine ops_fl rfl rfl rfl (fl_assign rfl rfl ?_)
      refine ops_nil ?_
      refine seq_normal ?_
      refine runs_seq ?_
      refine runs_keep [8, 7, 5, 3, 1] rfl ?_
      refine runs_nilrow 9 1 rfl ?_
      refine runs_region ?_
      first
      | refine ops_fl rfl rfl rfl (fl_load_blk ti31 rfl rfl rfl rfl rfl rfl rfl ?_)
      | refine ops_fl rfl rfl rfl (fl_load_cp ti31 rfl rfl rfl rfl rfl rfl ?_)
      | refine ops_fl rfl rfl rfl (fl_load_all ti31 rfl rfl rfl rfl (by first | rfl | exact Lvl.cells_len _) ?_)
      refine ops_cons rfl (op_callo ca10 rfl rfl rfl rfl (params_spec _ ka na aa [] (Nat.le_refl _) (by simp; omega)) [5] (.cons rfl (by first | exact .cells rfl (FitL.rfl _) | exact .row | exact .nrow | exact .mapI | exact .nnrow | (refine .cells rfl ?_; repeat (first | exact .nil | refine .cons (by first | exact .refl _ | exact .toD rfl | exact .nil rfl | exact .nilD) ?_))) .nil) rfl rfl rfl rfl (.cons (by first | exact .refl _ | exact .toD rfl | exact .nil rfl | exact .nilD | exact .dle rfl (by repeat' (first | exact DLe.refl _ | exact DLe.nil | exact DLeL.nil | exact DLeLL.nil | apply DLe.agg | apply DLe.tup | apply DLe.sl | apply DLe.cp | apply DLeL.cons | apply DLeLL.cons))) (.cons (by first | exact .refl _ | exact .toD rfl | exact .nil rfl | exact .nilD | exact .dle rfl (by repeat' (first | exact DLe.refl _ | exact DLe.nil | exact DLeL.nil | exact DLeLL.nil | apply DLe.agg | apply DLe.tup | apply DLe.sl | apply DLe.cp | apply DLeL.cons | apply DLeLL.cons))) .nil)) (fun s ob' hq => ?_) (fun s ob' hq => ?_))
      rotate_left
      · first | exact hq.elim | cases hq.1
      obtain ⟨hq1, rfl⟩ := hq
      cases hq1
      refine ⟨_, _, _, _, _, rfl, rfl, rfl, rfl, rfl, ?_⟩
      refine ops_fl rfl rfl rfl (fl_assign rfl rfl ?_)
      refine ops_nil ?_
      refine seq_normal ?_
      refine runs_seq ?_
      refine runs_region ?_
      refine ops_fl rfl rfl rfl (fl_move rfl rfl ?_)
      refine ops_fl rfl rfl rfl (fl_move rfl rfl ?_)
      refine ops_cons (T := fun _ => False) rfl (op_call ca18 rfl rfl rfl rfl (sameNames_spec (eachP (.mk ka na aa) []) ((Lvl.mk ka na aa).params []) (by rw [hep, ← hpar]; simp only [List.length_nil] at hplen; omega)) (.cons (by first | exact .refl _ | exact .toD rfl | exact .nilD | exact .dle rfl (by repeat' (first | exact DLe.refl _ | exact DLe.nil | exact DLeL.nil | exact DLeLL.nil | apply DLe.agg | apply DLe.tup | apply DLe.sl | apply DLe.cp | apply DLeL.cons | apply DLeLL.cons))) (.cons (by first | exact .refl _ | exact .toD rfl | exact .nilD | exact .dle rfl (by repeat' (first | exact DLe.refl _ | exact DLe.nil | exact DLeL.nil | exact DLeLL.nil | apply DLe.agg | apply DLe.tup | apply DLe.sl | apply DLe.cp | apply DLeL.cons | apply DLeLL.cons))) .nil)) (fun d hd => ?_))
      obtain rfl := hd
      refine ops_fl rfl rfl rfl (fl_assign rfl rfl ?_)
      refine ops_nil ?_
      refine seq_normal ?_
      refine runs_seq ?_
      refine runs_seq ?_
      refine runs_keep [10, 7, 5, 3, 1] rfl ?_
      refine runs_region ?_
      refine ops_fl rfl rfl rfl (fl_move rfl rfl ?_)
      first
      | refine ops_fl rfl rfl rfl (fl_load_blk ti31 rfl rfl rfl rfl rfl rfl rfl ?_)
      | refine ops_fl rfl rfl rfl (fl_load_cp ti31 rfl rfl rfl rfl rfl rfl ?_)
      | refine ops_fl rfl rfl rfl (fl_load_all ti31 rfl rfl rfl rfl (by first | rfl | exact Lvl.cells_len _) ?_)
      refine ops_cons (T := fun _ => False) rfl (op_call ca19 rfl rfl rfl rfl (hpr) (.cons (by first | exact .refl _ | exact .toD rfl | exact .nilD | exact .dle rfl (by repeat' (first | exact DLe.refl _ | exact DLe.nil | exact DLeL.nil | exact DLeLL.nil | apply DLe.agg | apply DLe.tup | apply DLe.sl | apply DLe.cp | apply DLeL.cons | apply DLeLL.cons))) .nil) (fun d hd => ?_))
      obtain rfl := hd
      refine ops_fl rfl rfl rfl (fl_sneq rfl rfl rfl ?_)
      refine ops_fl rfl rfl rfl (fl_move rfl rfl ?_)
      apply ops_or (yt := 49) (d := 47) 2 rfl rfl rfl (.none rfl) rfl rfl
      case h1 =>
        intro hb8 hK
        have hc := hb8; try simp only [decide_eq_true_eq, decide_eq_false_iff_not, Bool.not_eq_true', Bool.not_eq_false', Bool.not_true, Bool.not_false, Int.not_lt, Int.not_le, Bool.and_eq_true, Bool.or_eq_true, Bool.and_eq_false_iff, Bool.or_eq_false_iff, Bool.false_eq_true, Bool.true_eq_false, not_true_eq_false, not_false_eq_true, decide_true, decide_false, true_and, and_true, false_and, and_false, true_or, or_true, false_or, or_false, Bool.true_and, Bool.false_and, Bool.and_true, Bool.and_false, Bool.true_or, Bool.false_or, Bool.or_true, Bool.or_false, Int.reduceEq, Int.reduceNe, Int.reduceLT, Int.reduceLE, Int.toNat_natCast, toNat_add1] at hc
        all_goals try (first | contradiction | (exfalso; omega))
        all_goals (
          refine ops_gyes rfl rfl rfl hb8 ?_
          refine ops_fl rfl rfl rfl (fl_move rfl rfl ?_)
          refine ops_gyes rfl rfl rfl hb8 ?_
          refine ops_fl rfl rfl rfl (fl_not rfl rfl ?_)
          exact hK [_, _] rfl rfl)
      case h2 =>
        intro hb8 hK
        refine ops_gno rfl rfl rfl hb8 rfl rfl ?_
        refine ops_gno rfl rfl rfl hb8 rfl rfl ?_
        exact hK [_, _] rfl
      refine ops_nil ?_
      refine seq_normal ?_
      refine runs_cond rfl (fun h9 => ?_) (fun h9 => ?_)
      · try simp only [decide_eq_true_eq, decide_eq_false_iff_not, Bool.not_eq_true', Bool.not_eq_false', Bool.not_true, Bool.not_false, Int.not_lt, Int.not_le, Bool.and_eq_true, Bool.or_eq_true, Bool.and_eq_false_iff, Bool.or_eq_false_iff, Bool.false_eq_true, Bool.true_eq_false, not_true_eq_false, not_false_eq_true, decide_true, decide_false, true_and, and_true, false_and, and_false, true_or, or_true, false_or, or_false, Bool.true_and, Bool.false_and, Bool.and_true, Bool.and_false, Bool.true_or, Bool.false_or, Bool.or_true, Bool.or_false, Int.reduceEq, Int.reduceNe, Int.reduceLT, Int.reduceLE, Int.toNat_natCast, toNat_add1] at h9
        all_goals (first | contradiction | (exfalso; omega) | (exfalso; rw [hwr, hep, hpar] at h9; simp at h9))
      · try simp only [decide_eq_true_eq, decide_eq_false_iff_not, Bool.not_eq_true', Bool.not_eq_false', Bool.not_true, Bool.not_false, Int.not_lt, Int.not_le, Bool.and_eq_true, Bool.or_eq_true, Bool.and_eq_false_iff, Bool.or_eq_false_iff, Bool.false_eq_true, Bool.true_eq_false, not_true_eq_false, not_false_eq_true, decide_true, decide_false, true_and, and_true, false_and, and_false, true_or, or_true, false_or, or_false, Bool.true_and, Bool.false_and, Bool.and_true, Bool.and_false, Bool.true_or, Bool.false_or, Bool.or_true, Bool.or_false, Int.reduceEq, Int.reduceNe, Int.reduceLT, Int.reduceLE, Int.toNat_natCast, toNat_add1] at h9
        all_goals try (first | contradiction | (exfalso; omega))
        all_goals (
          refine runs_skip ?_
          refine seq_normal ?_
          refine runs_seq ?_
          refine runs_keep [5, 3, 1] rfl ?_
          refine runs_region ?_
          refine ops_fl rfl rfl rfl (fl_assign rfl rfl ?_)
          refine ops_nil ?_
          refine seq_normal ?_
          refine runs_seq ?_
          refine runs_seq ?_
          refine runs_region ?_
          first
          | refine ops_fl rfl rfl rfl (fl_field_blk ti25 rfl rfl rfl rfl ?_)
          | refine ops_fl rfl rfl rfl (fl_field_cp ti25 rfl rfl rfl rfl rfl ?_)
          first
          | refine ops_fl rfl rfl rfl (fl_load_blk ti9 rfl rfl rfl rfl rfl rfl rfl ?_)
          | refine ops_fl rfl rfl rfl (fl_load_cp ti9 rfl rfl rfl rfl rfl rfl ?_)
          refine ops_fl rfl rfl rfl (fl_len_s ut9 rfl rfl ?_)
          refine ops_fl rfl rfl rfl (fl_leq rfl rfl rfl ?_)
          refine ops_fl rfl rfl rfl (fl_move rfl rfl ?_)
          apply ops_and (yt := 59) (d := 55) 4 rfl rfl rfl (.none rfl) rfl rfl
          case h1 =>
            intro hb9 hK
            have hc := hb9; try simp only [decide_eq_true_eq, decide_eq_false_iff_not, Bool.not_eq_true', Bool.not_eq_false', Bool.not_true, Bool.not_false, Int.not_lt, Int.not_le, Bool.and_eq_true, Bool.or_eq_true, Bool.and_eq_false_iff, Bool.or_eq_false_iff, Bool.false_eq_true, Bool.true_eq_false, not_true_eq_false, not_false_eq_true, decide_true, decide_false, true_and, and_true, false_and, and_false, true_or, or_true, false_or, or_false, Bool.true_and, Bool.false_and, Bool.and_true, Bool.and_false, Bool.true_or, Bool.false_or, Bool.or_true, Bool.or_false, Int.reduceEq, Int.reduceNe, Int.reduceLT, Int.reduceLE, Int.toNat_natCast, toNat_add1] at hc
            all_goals try (first | contradiction | (exfalso; omega))
            all_goals (
              refine ops_gyes rfl rfl rfl hb9 ?_
              first
              | refine ops_fl rfl rfl rfl (fl_field_blk ti25 rfl rfl rfl rfl ?_)
              | refine ops_fl rfl rfl rfl (fl_field_cp ti25 rfl rfl rfl rfl rfl ?_)
              refine ops_gyes rfl rfl rfl hb9 ?_
              first
              | refine ops_fl rfl rfl rfl (fl_load_blk ti9 rfl rfl rfl rfl rfl rfl rfl ?_)
              | refine ops_fl rfl rfl rfl (fl_load_cp ti9 rfl rfl rfl rfl rfl rfl ?_)
              refine ops_gyes rfl rfl rfl hb9 ?_
              refine ops_fl rfl rfl rfl (fl_len_s ut9 rfl rfl ?_)
              refine ops_gyes rfl rfl rfl hb9 ?_
              refine ops_fl rfl rfl rfl (fl_leq rfl rfl rfl ?_)
              exact hK [_, _, _, _] rfl rfl)
          case h2 =>
            intro hb9 hK
            refine ops_gno rfl rfl rfl hb9 rfl rfl ?_
            refine ops_gno rfl rfl rfl hb9 rfl rfl ?_
            refine ops_gno rfl rfl rfl hb9 rfl rfl ?_
            refine ops_gno rfl rfl rfl hb9 rfl rfl ?_
            exact hK [_, _, _, _] rfl
          refine ops_nil ?_
          refine seq_normal ?_
          refine runs_keep [60, 10, 5, 3, 1] rfl ?_
          apply runs_cut_c (ι := Unit) (fun _ => []) [10, 3, 1] (fun _ => True)
          case hk => exact rfl
          case h1 =>
            refine runs_cond rfl (fun h12 => ?_) (fun h12 => ?_)
            · try simp only [decide_eq_true_eq, decide_eq_false_iff_not, Bool.not_eq_true', Bool.not_eq_false', Bool.not_true, Bool.not_false, Int.not_lt, Int.not_le, Bool.and_eq_true, Bool.or_eq_true, Bool.and_eq_false_iff, Bool.or_eq_false_iff, Bool.false_eq_true, Bool.true_eq_false, not_true_eq_false, not_false_eq_true, decide_true, decide_false, true_and, and_true, false_and, and_false, true_or, or_true, false_or, or_false, Bool.true_and, Bool.false_and, Bool.and_true, Bool.and_false, Bool.true_or, Bool.false_or, Bool.or_true, Bool.or_false, Int.reduceEq, Int.reduceNe, Int.reduceLT, Int.reduceLE, Int.toNat_natCast, toNat_add1] at h12
              all_goals try (first | contradiction | (exfalso; omega))
              all_goals (
                refine runs_seq ?_
                refine runs_region ?_
                first
                | refine ops_fl rfl rfl rfl (fl_load_blk ti31 rfl rfl rfl rfl rfl rfl rfl ?_)
                | refine ops_fl rfl rfl rfl (fl_load_cp ti31 rfl rfl rfl rfl rfl rfl ?_)
                | refine ops_fl rfl rfl rfl (fl_load_all ti31 rfl rfl rfl rfl (by first | rfl | exact Lvl.cells_len _) ?_)
                refine ops_cons (T := fun _ => False) rfl (op_lit sl36 [.const _, .const _, .const _] ti9 rfl rfl rfl rfl rfl rfl rfl (by decide) (by decide) (by decide) (by simp only [List.length_cons, List.length_nil, Nat.reduceAdd]; rfl) rfl ?_)
                first
                | refine ops_fl rfl rfl rfl (fl_load_blk ti31 rfl rfl rfl rfl rfl rfl rfl ?_)
                | refine ops_fl rfl rfl rfl (fl_load_cp ti31 rfl rfl rfl rfl rfl rfl ?_)
                | refine ops_fl rfl rfl rfl (fl_load_all ti31 rfl rfl rfl rfl (by first | rfl | exact Lvl.cells_len _) ?_)
                first
                | refine ops_fl rfl rfl rfl (fl_load_blk ti31 rfl rfl rfl rfl rfl rfl rfl ?_)
                | refine ops_fl rfl rfl rfl (fl_load_cp ti31 rfl rfl rfl rfl rfl rfl ?_)
                | refine ops_fl rfl rfl rfl (fl_load_all ti31 rfl rfl rfl rfl (by first | rfl | exact Lvl.cells_len _) ?_)
                first
                | refine ops_fl rfl rfl rfl (fl_load_blk ti31 rfl rfl rfl rfl rfl rfl rfl ?_)
                | refine ops_fl rfl rfl rfl (fl_load_cp ti31 rfl rfl rfl rfl rfl rfl ?_)
                | refine ops_fl rfl rfl rfl (fl_load_all ti31 rfl rfl rfl rfl (by first | rfl | exact Lvl.cells_len _) ?_)
                refine ops_cons (T := fun _ => False) rfl (op_lit sl29 [.tmp 63, .tmp 64, .tmp 65] ti31 rfl rfl rfl rfl rfl rfl rfl (by decide) (by decide) (by decide) (by simp only [List.length_cons, List.length_nil, Nat.reduceAdd]; rfl) rfl ?_)
                refine ops_cons (T := fun _ => False) rfl (op_call ca20 rfl rfl rfl rfl (psubst_spec [⟨#[117]⟩, ⟨#[119]⟩, ⟨#[117]⟩] [.mk kb nb ab, .mk ka na aa, .mk ka na aa] (by simp) (by simp) _ ka na aa (Nat.le_refl _) (by omega)) (.cons (by first | exact .refl _ | exact .toD rfl | exact .nilD | exact .dle rfl (by repeat' (first | exact DLe.refl _ | exact DLe.nil | exact DLeL.nil | exact DLeLL.nil | apply DLe.agg | apply DLe.tup | apply DLe.sl | apply DLe.cp | apply DLeL.cons | apply DLeLL.cons))) (.cons (by first | exact .refl _ | exact .toD rfl | exact .nilD | exact .dle rfl (by repeat' (first | exact DLe.refl _ | exact DLe.nil | exact DLeL.nil | exact DLeLL.nil | apply DLe.agg | apply DLe.tup | apply DLe.sl | apply DLe.cp | apply DLeL.cons | apply DLeLL.cons))) (.cons (by first | exact .refl _ | exact .toD rfl | exact .nilD | exact .dle rfl (by repeat' (first | exact DLe.refl _ | exact DLe.nil | exact DLeL.nil | exact DLeLL.nil | apply DLe.agg | apply DLe.tup | apply DLe.sl | apply DLe.cp | apply DLeL.cons | apply DLeLL.cons))) .nil))) (fun d hd => ?_))
                rw [eu] at hd; obtain rfl := hd
                refine ops_cons (T := fun _ => False) rfl (op_alloc ti31 rfl rfl rfl rfl rfl (by simp only [List.length_cons, List.length_nil, Nat.reduceAdd]; rfl) rfl ?_)
                refine ops_cons rfl (op_store ti31 rfl rfl rfl rfl rfl rfl rfl rfl rfl rfl rfl ?_)
                refine ops_nil ?_
                refine seq_normal ?_
                refine runs_seq ?_
                refine runs_keep [11, 5, 3, 1] rfl ?_
                refine runs_region ?_
                first
                | refine ops_fl rfl rfl rfl (fl_load_blk ti31 rfl rfl rfl rfl rfl rfl rfl ?_)
                | refine ops_fl rfl rfl rfl (fl_load_cp ti31 rfl rfl rfl rfl rfl rfl ?_)
                | refine ops_fl rfl rfl rfl (fl_load_all ti31 rfl rfl rfl rfl (by first | rfl | exact Lvl.cells_len _) ?_)
                refine ops_cons (T := fun _ => False) rfl (op_lit sl36 [.const _, .const _, .const _] ti9 rfl rfl rfl rfl rfl rfl rfl (by decide) (by decide) (by decide) (by simp only [List.length_cons, List.length_nil, Nat.reduceAdd]; rfl) rfl ?_)
                first
                | refine ops_fl rfl rfl rfl (fl_load_blk ti31 rfl rfl rfl rfl rfl rfl rfl ?_)
                | refine ops_fl rfl rfl rfl (fl_load_cp ti31 rfl rfl rfl rfl rfl rfl ?_)
                | refine ops_fl rfl rfl rfl (fl_load_all ti31 rfl rfl rfl rfl (by first | rfl | exact Lvl.cells_len _) ?_)
                first
                | refine ops_fl rfl rfl rfl (fl_load_blk ti31 rfl rfl rfl rfl rfl rfl rfl ?_)
                | refine ops_fl rfl rfl rfl (fl_load_cp ti31 rfl rfl rfl rfl rfl rfl ?_)
                | refine ops_fl rfl rfl rfl (fl_load_all ti31 rfl rfl rfl rfl (by first | rfl | exact Lvl.cells_len _) ?_)
                first
                | refine ops_fl rfl rfl rfl (fl_load_blk ti31 rfl rfl rfl rfl rfl rfl rfl ?_)
                | refine ops_fl rfl rfl rfl (fl_load_cp ti31 rfl rfl rfl rfl rfl rfl ?_)
                | refine ops_fl rfl rfl rfl (fl_load_all ti31 rfl rfl rfl rfl (by first | rfl | exact Lvl.cells_len _) ?_)
                refine ops_cons (T := fun _ => False) rfl (op_lit sl29 [.tmp 70, .tmp 71, .tmp 72] ti31 rfl rfl rfl rfl rfl rfl rfl (by decide) (by decide) (by decide) (by simp only [List.length_cons, List.length_nil, Nat.reduceAdd]; rfl) rfl ?_)
                refine ops_cons (T := fun _ => False) rfl (op_call ca21 rfl rfl rfl rfl (substLevel_spec [⟨#[117]⟩, ⟨#[119]⟩, ⟨#[117]⟩] [.mk kb nb ab, .mk ka na aa, .mk ka na aa] (by simp) (by simp) _ ka na aa (Nat.le_refl _) (by omega)) (.cons (by first | exact .refl _ | exact .toD rfl | exact .nilD | exact .dle rfl (by repeat' (first | exact DLe.refl _ | exact DLe.nil | exact DLeL.nil | exact DLeLL.nil | apply DLe.agg | apply DLe.tup | apply DLe.sl | apply DLe.cp | apply DLeL.cons | apply DLeLL.cons))) (.cons (by first | exact .refl _ | exact .toD rfl | exact .nilD | exact .dle rfl (by repeat' (first | exact DLe.refl _ | exact DLe.nil | exact DLeL.nil | exact DLeLL.nil | apply DLe.agg | apply DLe.tup | apply DLe.sl | apply DLe.cp | apply DLeL.cons | apply DLeLL.cons))) (.cons (by first | exact .refl _ | exact .toD rfl | exact .nilD | exact .dle rfl (by repeat' (first | exact DLe.refl _ | exact DLe.nil | exact DLeL.nil | exact DLeLL.nil | apply DLe.agg | apply DLe.tup | apply DLe.sl | apply DLe.cp | apply DLeL.cons | apply DLeLL.cons))) .nil))) (fun d hd => ?_))
                rw [eu] at hd; obtain rfl := hd
                refine ops_cons (T := fun _ => False) rfl (op_alloc ti31 rfl rfl rfl rfl rfl (by simp only [List.length_cons, List.length_nil, Nat.reduceAdd]; rfl) rfl ?_)
                refine ops_cons rfl (op_store ti31 rfl rfl rfl rfl rfl rfl rfl rfl rfl rfl rfl ?_)
                refine ops_nil ?_
                refine seq_normal ?_
                refine runs_keep [12, 11, 3, 1] rfl ?_
                refine runs_region ?_
                first
                | refine ops_fl rfl rfl rfl (fl_load_blk ti31 rfl rfl rfl rfl rfl rfl rfl ?_)
                | refine ops_fl rfl rfl rfl (fl_load_cp ti31 rfl rfl rfl rfl rfl rfl ?_)
                | refine ops_fl rfl rfl rfl (fl_load_all ti31 rfl rfl rfl rfl (by first | rfl | exact Lvl.cells_len _) ?_)
                first
                | refine ops_fl rfl rfl rfl (fl_load_blk ti31 rfl rfl rfl rfl rfl rfl rfl ?_)
                | refine ops_fl rfl rfl rfl (fl_load_cp ti31 rfl rfl rfl rfl rfl rfl ?_)
                | refine ops_fl rfl rfl rfl (fl_load_all ti31 rfl rfl rfl rfl (by first | rfl | exact Lvl.cells_len _) ?_)
                refine ops_cons (T := fun _ => False) rfl (op_call ca22 rfl rfl rfl rfl (sameLvl_spec _ ku nu au ku nu au (Nat.le_refl _) hss2) (.cons (by first | exact .refl _ | exact .toD rfl | exact .nilD | exact .dle rfl (by repeat' (first | exact DLe.refl _ | exact DLe.nil | exact DLeL.nil | exact DLeLL.nil | apply DLe.agg | apply DLe.tup | apply DLe.sl | apply DLe.cp | apply DLeL.cons | apply DLeLL.cons))) (.cons (by first | exact .refl _ | exact .toD rfl | exact .nilD | exact .dle rfl (by repeat' (first | exact DLe.refl _ | exact DLe.nil | exact DLeL.nil | exact DLeLL.nil | apply DLe.agg | apply DLe.tup | apply DLe.sl | apply DLe.cp | apply DLeL.cons | apply DLeLL.cons))) .nil)) (fun d hd => ?_))
                rw [hsame] at hd; obtain rfl := hd
                refine ops_fl rfl rfl rfl (fl_assign rfl rfl ?_)
                refine ops_nil ?_
                refine seq_back ?_
                refine back_i (()) rfl ?_ ?_
                · trivial
                · refine meets_of rfl rfl rfl ?_ (.cons rfl (by first | exact .refl _ | exact .toD rfl | exact .nilD | exact Fit.of_eq rfl | exact .dle rfl (by repeat' (first | exact DLe.refl _ | exact DLe.nil | exact DLeL.nil | exact DLeLL.nil | apply DLe.agg | apply DLe.tup | apply DLe.sl | apply DLe.cp | apply DLeL.cons | apply DLeLL.cons))) (.cons rfl (by first | exact .refl _ | exact .toD rfl | exact .nilD | exact Fit.of_eq rfl | exact .dle rfl (by repeat' (first | exact DLe.refl _ | exact DLe.nil | exact DLeL.nil | exact DLeLL.nil | apply DLe.agg | apply DLe.tup | apply DLe.sl | apply DLe.cp | apply DLeL.cons | apply DLeLL.cons))) (.cons rfl (by first | exact .refl _ | exact .toD rfl | exact .nilD | exact Fit.of_eq rfl | exact .dle rfl (by repeat' (first | exact DLe.refl _ | exact DLe.nil | exact DLeL.nil | exact DLeLL.nil | apply DLe.agg | apply DLe.tup | apply DLe.sl | apply DLe.cp | apply DLeL.cons | apply DLeLL.cons))) .nil)))
                  repeat (first | exact .nil | refine .cons rfl (.cells rfl (FitL.rfl _)) ?_ | refine .cons rfl (.cells rfl (by repeat (first | exact .nil | refine .cons (by first | exact .refl _ | exact .toD rfl | exact .nil rfl | exact .nilD | exact Fit.of_eq rfl) ?_))) ?_ | refine .cons rfl .row ?_ | refine .cons rfl .mapI ?_ | refine .cons rfl .nnrow ?_ | refine .cons rfl .nrow ?_ | refine .cons rfl .dead ?_)
              )
            · try simp only [decide_eq_true_eq, decide_eq_false_iff_not, Bool.not_eq_true', Bool.not_eq_false', Bool.not_true, Bool.not_false, Int.not_lt, Int.not_le, Bool.and_eq_true, Bool.or_eq_true, Bool.and_eq_false_iff, Bool.or_eq_false_iff, Bool.false_eq_true, Bool.true_eq_false, not_true_eq_false, not_false_eq_true, decide_true, decide_false, true_and, and_true, false_and, and_false, true_or, or_true, false_or, or_false, Bool.true_and, Bool.false_and, Bool.and_true, Bool.and_false, Bool.true_or, Bool.false_or, Bool.or_true, Bool.or_false, Int.reduceEq, Int.reduceNe, Int.reduceLT, Int.reduceLE, Int.toNat_natCast, toNat_add1] at h12
              all_goals try (first | contradiction | (exfalso; omega))
              all_goals (
                refine runs_skip ?_
                refine seq_back ?_
                refine back_i (()) rfl ?_ ?_
                · trivial
                · refine meets_of rfl rfl rfl ?_ (.cons rfl (by first | exact .refl _ | exact .toD rfl | exact .nilD | exact Fit.of_eq rfl | exact .dle rfl (by repeat' (first | exact DLe.refl _ | exact DLe.nil | exact DLeL.nil | exact DLeLL.nil | apply DLe.agg | apply DLe.tup | apply DLe.sl | apply DLe.cp | apply DLeL.cons | apply DLeLL.cons))) (.cons rfl (by first | exact .refl _ | exact .toD rfl | exact .nilD | exact Fit.of_eq rfl | exact .dle rfl (by repeat' (first | exact DLe.refl _ | exact DLe.nil | exact DLeL.nil | exact DLeLL.nil | apply DLe.agg | apply DLe.tup | apply DLe.sl | apply DLe.cp | apply DLeL.cons | apply DLeLL.cons))) (.cons rfl (by first | exact .refl _ | exact .toD rfl | exact .nilD | exact Fit.of_eq rfl | exact .dle rfl (by repeat' (first | exact DLe.refl _ | exact DLe.nil | exact DLeL.nil | exact DLeLL.nil | apply DLe.agg | apply DLe.tup | apply DLe.sl | apply DLe.cp | apply DLeL.cons | apply DLeLL.cons))) .nil)))
                  repeat (first | exact .nil | refine .cons rfl (.cells rfl (FitL.rfl _)) ?_ | refine .cons rfl (.cells rfl (by repeat (first | exact .nil | refine .cons (by first | exact .refl _ | exact .toD rfl | exact .nil rfl | exact .nilD | exact Fit.of_eq rfl) ?_))) ?_ | refine .cons rfl .row ?_ | refine .cons rfl .mapI ?_ | refine .cons rfl .nnrow ?_ | refine .cons rfl .nrow ?_ | refine .cons rfl .dead ?_)
              )
          case h2 =>
            rintro _ hcut
            try dsimp only at hcut
            refine runs_keep [10, 3, 1] rfl ?_
            refine runs_seq ?_
            apply runs_cut_c (ι := Unit) (fun _ => [(13, int (x.worth (pval [⟨#[117]⟩, ⟨#[118]⟩] [(if A < 0 then (-(A + 1)) % 6 else A % 6), (if B < 0 then (-(B + 1)) % 6 else B % 6)])))]) [10, 3, 1] (fun _ => True)
            case hk => exact rfl
            case h1 =>
              refine any_start mixed rfl rfl ?_
              first
              | refine any_fl 0 rfl rfl rfl rfl (by kernel_rfl) rfl (fl_load_blk ti31 rfl rfl rfl rfl rfl rfl rfl ⟨_, rfl, ?_⟩)
              | refine any_fl 0 rfl rfl rfl rfl (by kernel_rfl) rfl (fl_load_cp ti31 rfl rfl rfl rfl rfl rfl ⟨_, rfl, ?_⟩)
              | refine any_fl 0 rfl rfl rfl rfl (by kernel_rfl) rfl (fl_load_all ti31 rfl rfl rfl rfl (by first | rfl | exact Lvl.cells_len _) ⟨_, rfl, ?_⟩)
              first
              | refine any_fl 2 rfl rfl rfl rfl (by kernel_rfl) rfl (fl_field_blk ti25 rfl rfl rfl rfl ⟨_, rfl, ?_⟩)
              | refine any_fl 2 rfl rfl rfl rfl (by kernel_rfl) rfl (fl_field_cp ti25 rfl rfl rfl rfl rfl ⟨_, rfl, ?_⟩)
              first
              | refine any_fl 3 rfl rfl rfl rfl (by kernel_rfl) rfl (fl_load_blk ti3 rfl rfl rfl rfl rfl rfl rfl ⟨_, rfl, ?_⟩)
              | refine any_fl 3 rfl rfl rfl rfl (by kernel_rfl) rfl (fl_load_cp ti3 rfl rfl rfl rfl rfl rfl ⟨_, rfl, ?_⟩)
              first
              | refine any_fl 5 rfl rfl rfl rfl (by kernel_rfl) rfl (fl_field_blk ti25 rfl rfl rfl rfl ⟨_, rfl, ?_⟩)
              | refine any_fl 5 rfl rfl rfl rfl (by kernel_rfl) rfl (fl_field_cp ti25 rfl rfl rfl rfl rfl ⟨_, rfl, ?_⟩)
              first
              | refine any_fl 6 rfl rfl rfl rfl (by kernel_rfl) rfl (fl_load_blk ti3 rfl rfl rfl rfl rfl rfl rfl ⟨_, rfl, ?_⟩)
              | refine any_fl 6 rfl rfl rfl rfl (by kernel_rfl) rfl (fl_load_cp ti3 rfl rfl rfl rfl rfl rfl ⟨_, rfl, ?_⟩)
              refine any_many (rs := [1, 4]) (by kernel_rfl) rfl ⟨?_, ?_, trivial⟩
              · skip
                refine any_o (T := fun _ => False) 1 rfl rfl rfl rfl (by intro p hp; simp only [List.mem_cons, List.not_mem_nil, or_false] at hp; all_goals (first | exact hp.elim | (subst hp; exact ⟨by simp, _, _, rfl⟩) | (rcases hp with rfl | rfl <;> exact ⟨by simp, _, _, rfl⟩) | (rcases hp with rfl | rfl | rfl <;> exact ⟨by simp, _, _, rfl⟩) | (rcases hp with rfl | rfl | rfl | rfl <;> exact ⟨by simp, _, _, rfl⟩) | (rcases hp with rfl | rfl | rfl | rfl | rfl <;> exact ⟨by simp, _, _, rfl⟩))) (op_lit sl36 [.const _, .const _] ti9 rfl rfl rfl rfl rfl rfl rfl (by decide) (by decide) (by decide) (by simp only [List.length_cons, List.length_nil, Nat.reduceAdd]; rfl) rfl ?_)
                refine any_st (T := fun _ => False) 4 rfl rfl (by kernel_rfl) rfl rfl (by intro p hp; simp only [List.mem_cons, List.not_mem_nil, or_false] at hp; all_goals (first | exact hp.elim | (subst hp; exact ⟨by simp, _, _, rfl⟩) | (rcases hp with rfl | rfl <;> exact ⟨by simp, _, _, rfl⟩) | (rcases hp with rfl | rfl | rfl <;> exact ⟨by simp, _, _, rfl⟩) | (rcases hp with rfl | rfl | rfl | rfl <;> exact ⟨by simp, _, _, rfl⟩) | (rcases hp with rfl | rfl | rfl | rfl | rfl <;> exact ⟨by simp, _, _, rfl⟩))) (op_call ca11 rfl rfl rfl rfl (limit_spec A hA.1 hA.2) (.cons (by first | exact .refl _ | exact .toD rfl | exact .nilD | exact .dle rfl (by repeat' (first | exact DLe.refl _ | exact DLe.nil | exact DLeL.nil | exact DLeLL.nil | apply DLe.agg | apply DLe.tup | apply DLe.sl | apply DLe.cp | apply DLeL.cons | apply DLeLL.cons))) .nil) (fun d hd => ?_))
                obtain rfl := hd
                refine any_st (T := fun _ => False) 7 rfl rfl (by kernel_rfl) rfl rfl (by intro p hp; simp only [List.mem_cons, List.not_mem_nil, or_false] at hp; all_goals (first | exact hp.elim | (subst hp; exact ⟨by simp, _, _, rfl⟩) | (rcases hp with rfl | rfl <;> exact ⟨by simp, _, _, rfl⟩) | (rcases hp with rfl | rfl | rfl <;> exact ⟨by simp, _, _, rfl⟩) | (rcases hp with rfl | rfl | rfl | rfl <;> exact ⟨by simp, _, _, rfl⟩) | (rcases hp with rfl | rfl | rfl | rfl | rfl <;> exact ⟨by simp, _, _, rfl⟩))) (op_call ca11 rfl rfl rfl rfl (limit_spec B hB.1 hB.2) (.cons (by first | exact .refl _ | exact .toD rfl | exact .nilD | exact .dle rfl (by repeat' (first | exact DLe.refl _ | exact DLe.nil | exact DLeL.nil | exact DLeLL.nil | apply DLe.agg | apply DLe.tup | apply DLe.sl | apply DLe.cp | apply DLeL.cons | apply DLeLL.cons))) .nil) (fun d hd => ?_))
                obtain rfl := hd
                refine any_st (T := fun _ => False) 8 rfl rfl (by kernel_rfl) rfl rfl (by intro p hp; simp only [List.mem_cons, List.not_mem_nil, or_false] at hp; all_goals (first | exact hp.elim | (subst hp; exact ⟨by simp, _, _, rfl⟩) | (rcases hp with rfl | rfl <;> exact ⟨by simp, _, _, rfl⟩) | (rcases hp with rfl | rfl | rfl <;> exact ⟨by simp, _, _, rfl⟩) | (rcases hp with rfl | rfl | rfl | rfl <;> exact ⟨by simp, _, _, rfl⟩) | (rcases hp with rfl | rfl | rfl | rfl | rfl <;> exact ⟨by simp, _, _, rfl⟩))) (op_lit sl39 [.tmp 82, .tmp 85] ti3 rfl rfl rfl rfl rfl rfl rfl (by decide) (by decide) (by decide) (by simp only [List.length_cons, List.length_nil, Nat.reduceAdd]; rfl) rfl ?_)
                refine any_st (T := fun _ => False) 9 rfl rfl (by kernel_rfl) rfl rfl (by intro p hp; simp only [List.mem_cons, List.not_mem_nil, or_false] at hp; all_goals (first | exact hp.elim | (subst hp; exact ⟨by simp, _, _, rfl⟩) | (rcases hp with rfl | rfl <;> exact ⟨by simp, _, _, rfl⟩) | (rcases hp with rfl | rfl | rfl <;> exact ⟨by simp, _, _, rfl⟩) | (rcases hp with rfl | rfl | rfl | rfl <;> exact ⟨by simp, _, _, rfl⟩) | (rcases hp with rfl | rfl | rfl | rfl | rfl <;> exact ⟨by simp, _, _, rfl⟩))) (op_call ca12 rfl rfl rfl rfl (hW2) (.cons (by first | exact .refl _ | exact .toD rfl | exact .nilD | exact .dle rfl (by repeat' (first | exact DLe.refl _ | exact DLe.nil | exact DLeL.nil | exact DLeLL.nil | apply DLe.agg | apply DLe.tup | apply DLe.sl | apply DLe.cp | apply DLeL.cons | apply DLeLL.cons))) (.cons (by first | exact .refl _ | exact .toD rfl | exact .nilD | exact .dle rfl (by repeat' (first | exact DLe.refl _ | exact DLe.nil | exact DLeL.nil | exact DLeLL.nil | apply DLe.agg | apply DLe.tup | apply DLe.sl | apply DLe.cp | apply DLeL.cons | apply DLeLL.cons))) (.cons (by first | exact .refl _ | exact .toD rfl | exact .nilD | exact .dle rfl (by repeat' (first | exact DLe.refl _ | exact DLe.nil | exact DLeL.nil | exact DLeLL.nil | apply DLe.agg | apply DLe.tup | apply DLe.sl | apply DLe.cp | apply DLeL.cons | apply DLeLL.cons))) .nil))) (fun d hd => ?_))
                obtain rfl := hd
                refine any_fl 10 rfl rfl rfl rfl (by kernel_rfl) rfl (fl_assign rfl rfl ⟨_, rfl, ?_⟩)
                refine any_end (by kernel_rfl) ?_
                refine seq_back ?_
                refine back_i (()) rfl ?_ ?_
                · trivial
                · refine meets_of rfl rfl rfl ?_ (.cons rfl (by first | exact .refl _ | exact .toD rfl | exact .nilD | exact Fit.of_eq rfl | exact .dle rfl (by repeat' (first | exact DLe.refl _ | exact DLe.nil | exact DLeL.nil | exact DLeLL.nil | apply DLe.agg | apply DLe.tup | apply DLe.sl | apply DLe.cp | apply DLeL.cons | apply DLeLL.cons))) (.cons rfl (by first | exact .refl _ | exact .toD rfl | exact .nilD | exact Fit.of_eq rfl | exact .dle rfl (by repeat' (first | exact DLe.refl _ | exact DLe.nil | exact DLeL.nil | exact DLeLL.nil | apply DLe.agg | apply DLe.tup | apply DLe.sl | apply DLe.cp | apply DLeL.cons | apply DLeLL.cons))) (.cons rfl (by first | exact .refl _ | exact .toD rfl | exact .nilD | exact Fit.of_eq rfl | exact .dle rfl (by repeat' (first | exact DLe.refl _ | exact DLe.nil | exact DLeL.nil | exact DLeLL.nil | apply DLe.agg | apply DLe.tup | apply DLe.sl | apply DLe.cp | apply DLeL.cons | apply DLeLL.cons))) (.cons rfl (by first | exact .refl _ | exact .toD rfl | exact .nilD | exact Fit.of_eq rfl | exact .dle rfl (by repeat' (first | exact DLe.refl _ | exact DLe.nil | exact DLeL.nil | exact DLeLL.nil | apply DLe.agg | apply DLe.tup | apply DLe.sl | apply DLe.cp | apply DLeL.cons | apply DLeLL.cons))) .nil))))
                  repeat (first | exact .nil | refine .cons rfl (.cells rfl (FitL.rfl _)) ?_ | refine .cons rfl (.cells rfl (by repeat (first | exact .nil | refine .cons (by first | exact .refl _ | exact .toD rfl | exact .nil rfl | exact .nilD | exact Fit.of_eq rfl) ?_))) ?_ | refine .cons rfl .row ?_ | refine .cons rfl .mapI ?_ | refine .cons rfl .nnrow ?_ | refine .cons rfl .nrow ?_ | refine .cons rfl .dead ?_)
              · skip
                refine any_o (T := fun _ => False) 4 rfl rfl rfl rfl (by intro p hp; simp only [List.mem_cons, List.not_mem_nil, or_false] at hp; all_goals (first | exact hp.elim | (subst hp; exact ⟨by simp, _, _, rfl⟩) | (rcases hp with rfl | rfl <;> exact ⟨by simp, _, _, rfl⟩) | (rcases hp with rfl | rfl | rfl <;> exact ⟨by simp, _, _, rfl⟩) | (rcases hp with rfl | rfl | rfl | rfl <;> exact ⟨by simp, _, _, rfl⟩) | (rcases hp with rfl | rfl | rfl | rfl | rfl <;> exact ⟨by simp, _, _, rfl⟩))) (op_call ca11 rfl rfl rfl rfl (limit_spec A hA.1 hA.2) (.cons (by first | exact .refl _ | exact .toD rfl | exact .nilD | exact .dle rfl (by repeat' (first | exact DLe.refl _ | exact DLe.nil | exact DLeL.nil | exact DLeLL.nil | apply DLe.agg | apply DLe.tup | apply DLe.sl | apply DLe.cp | apply DLeL.cons | apply DLeLL.cons))) .nil) (fun d hd => ?_))
                obtain rfl := hd
                refine any_many (rs := [1, 7]) (by kernel_rfl) rfl ⟨?_, ?_, trivial⟩
                · skip
                  refine any_o (T := fun _ => False) 1 rfl rfl rfl rfl (by intro p hp; simp only [List.mem_cons, List.not_mem_nil, or_false] at hp; all_goals (first | exact hp.elim | (subst hp; exact ⟨by simp, _, _, rfl⟩) | (rcases hp with rfl | rfl <;> exact ⟨by simp, _, _, rfl⟩) | (rcases hp with rfl | rfl | rfl <;> exact ⟨by simp, _, _, rfl⟩) | (rcases hp with rfl | rfl | rfl | rfl <;> exact ⟨by simp, _, _, rfl⟩) | (rcases hp with rfl | rfl | rfl | rfl | rfl <;> exact ⟨by simp, _, _, rfl⟩))) (op_lit sl36 [.const _, .const _] ti9 rfl rfl rfl rfl rfl rfl rfl (by decide) (by decide) (by decide) (by simp only [List.length_cons, List.length_nil, Nat.reduceAdd]; rfl) rfl ?_)
                  refine any_st (T := fun _ => False) 7 rfl rfl (by kernel_rfl) rfl rfl (by intro p hp; simp only [List.mem_cons, List.not_mem_nil, or_false] at hp; all_goals (first | exact hp.elim | (subst hp; exact ⟨by simp, _, _, rfl⟩) | (rcases hp with rfl | rfl <;> exact ⟨by simp, _, _, rfl⟩) | (rcases hp with rfl | rfl | rfl <;> exact ⟨by simp, _, _, rfl⟩) | (rcases hp with rfl | rfl | rfl | rfl <;> exact ⟨by simp, _, _, rfl⟩) | (rcases hp with rfl | rfl | rfl | rfl | rfl <;> exact ⟨by simp, _, _, rfl⟩))) (op_call ca11 rfl rfl rfl rfl (limit_spec B hB.1 hB.2) (.cons (by first | exact .refl _ | exact .toD rfl | exact .nilD | exact .dle rfl (by repeat' (first | exact DLe.refl _ | exact DLe.nil | exact DLeL.nil | exact DLeLL.nil | apply DLe.agg | apply DLe.tup | apply DLe.sl | apply DLe.cp | apply DLeL.cons | apply DLeLL.cons))) .nil) (fun d hd => ?_))
                  obtain rfl := hd
                  refine any_st (T := fun _ => False) 8 rfl rfl (by kernel_rfl) rfl rfl (by intro p hp; simp only [List.mem_cons, List.not_mem_nil, or_false] at hp; all_goals (first | exact hp.elim | (subst hp; exact ⟨by simp, _, _, rfl⟩) | (rcases hp with rfl | rfl <;> exact ⟨by simp, _, _, rfl⟩) | (rcases hp with rfl | rfl | rfl <;> exact ⟨by simp, _, _, rfl⟩) | (rcases hp with rfl | rfl | rfl | rfl <;> exact ⟨by simp, _, _, rfl⟩) | (rcases hp with rfl | rfl | rfl | rfl | rfl <;> exact ⟨by simp, _, _, rfl⟩))) (op_lit sl39 [.tmp 82, .tmp 85] ti3 rfl rfl rfl rfl rfl rfl rfl (by decide) (by decide) (by decide) (by simp only [List.length_cons, List.length_nil, Nat.reduceAdd]; rfl) rfl ?_)
                  refine any_st (T := fun _ => False) 9 rfl rfl (by kernel_rfl) rfl rfl (by intro p hp; simp only [List.mem_cons, List.not_mem_nil, or_false] at hp; all_goals (first | exact hp.elim | (subst hp; exact ⟨by simp, _, _, rfl⟩) | (rcases hp with rfl | rfl <;> exact ⟨by simp, _, _, rfl⟩) | (rcases hp with rfl | rfl | rfl <;> exact ⟨by simp, _, _, rfl⟩) | (rcases hp with rfl | rfl | rfl | rfl <;> exact ⟨by simp, _, _, rfl⟩) | (rcases hp with rfl | rfl | rfl | rfl | rfl <;> exact ⟨by simp, _, _, rfl⟩))) (op_call ca12 rfl rfl rfl rfl (hW2) (.cons (by first | exact .refl _ | exact .toD rfl | exact .nilD | exact .dle rfl (by repeat' (first | exact DLe.refl _ | exact DLe.nil | exact DLeL.nil | exact DLeLL.nil | apply DLe.agg | apply DLe.tup | apply DLe.sl | apply DLe.cp | apply DLeL.cons | apply DLeLL.cons))) (.cons (by first | exact .refl _ | exact .toD rfl | exact .nilD | exact .dle rfl (by repeat' (first | exact DLe.refl _ | exact DLe.nil | exact DLeL.nil | exact DLeLL.nil | apply DLe.agg | apply DLe.tup | apply DLe.sl | apply DLe.cp | apply DLeL.cons | apply DLeLL.cons))) (.cons (by first | exact .refl _ | exact .toD rfl | exact .nilD | exact .dle rfl (by repeat' (first | exact DLe.refl _ | exact DLe.nil | exact DLeL.nil | exact DLeLL.nil | apply DLe.agg | apply DLe.tup | apply DLe.sl | apply DLe.cp | apply DLeL.cons | apply DLeLL.cons))) .nil))) (fun d hd => ?_))
                  obtain rfl := hd
                  refine any_fl 10 rfl rfl rfl rfl (by kernel_rfl) rfl (fl_assign rfl rfl ⟨_, rfl, ?_⟩)
                  refine any_end (by kernel_rfl) ?_
                  refine seq_back ?_
                  refine back_i (()) rfl ?_ ?_
                  · trivial
                  · refine meets_of rfl rfl rfl ?_ (.cons rfl (by first | exact .refl _ | exact .toD rfl | exact .nilD | exact Fit.of_eq rfl | exact .dle rfl (by repeat' (first | exact DLe.refl _ | exact DLe.nil | exact DLeL.nil | exact DLeLL.nil | apply DLe.agg | apply DLe.tup | apply DLe.sl | apply DLe.cp | apply DLeL.cons | apply DLeLL.cons))) (.cons rfl (by first | exact .refl _ | exact .toD rfl | exact .nilD | exact Fit.of_eq rfl | exact .dle rfl (by repeat' (first | exact DLe.refl _ | exact DLe.nil | exact DLeL.nil | exact DLeLL.nil | apply DLe.agg | apply DLe.tup | apply DLe.sl | apply DLe.cp | apply DLeL.cons | apply DLeLL.cons))) (.cons rfl (by first | exact .refl _ | exact .toD rfl | exact .nilD | exact Fit.of_eq rfl | exact .dle rfl (by repeat' (first | exact DLe.refl _ | exact DLe.nil | exact DLeL.nil | exact DLeLL.nil | apply DLe.agg | apply DLe.tup | apply DLe.sl | apply DLe.cp | apply DLeL.cons | apply DLeLL.cons))) (.cons rfl (by first | exact .refl _ | exact .toD rfl | exact .nilD | exact Fit.of_eq rfl | exact .dle rfl (by repeat' (first | exact DLe.refl _ | exact DLe.nil | exact DLeL.nil | exact DLeLL.nil | apply DLe.agg | apply DLe.tup | apply DLe.sl | apply DLe.cp | apply DLeL.cons | apply DLeLL.cons))) .nil))))
                    repeat (first | exact .nil | refine .cons rfl (.cells rfl (FitL.rfl _)) ?_ | refine .cons rfl (.cells rfl (by repeat (first | exact .nil | refine .cons (by first | exact .refl _ | exact .toD rfl | exact .nil rfl | exact .nilD | exact Fit.of_eq rfl) ?_))) ?_ | refine .cons rfl .row ?_ | refine .cons rfl .mapI ?_ | refine .cons rfl .nnrow ?_ | refine .cons rfl .nrow ?_ | refine .cons rfl .dead ?_)
                · skip
                  refine any_o (T := fun _ => False) 7 rfl rfl rfl rfl (by intro p hp; simp only [List.mem_cons, List.not_mem_nil, or_false] at hp; all_goals (first | exact hp.elim | (subst hp; exact ⟨by simp, _, _, rfl⟩) | (rcases hp with rfl | rfl <;> exact ⟨by simp, _, _, rfl⟩) | (rcases hp with rfl | rfl | rfl <;> exact ⟨by simp, _, _, rfl⟩) | (rcases hp with rfl | rfl | rfl | rfl <;> exact ⟨by simp, _, _, rfl⟩) | (rcases hp with rfl | rfl | rfl | rfl | rfl <;> exact ⟨by simp, _, _, rfl⟩))) (op_call ca11 rfl rfl rfl rfl (limit_spec B hB.1 hB.2) (.cons (by first | exact .refl _ | exact .toD rfl | exact .nilD | exact .dle rfl (by repeat' (first | exact DLe.refl _ | exact DLe.nil | exact DLeL.nil | exact DLeLL.nil | apply DLe.agg | apply DLe.tup | apply DLe.sl | apply DLe.cp | apply DLeL.cons | apply DLeLL.cons))) .nil) (fun d hd => ?_))
                  obtain rfl := hd
                  refine any_many (rs := [1, 8]) (by kernel_rfl) rfl ⟨?_, ?_, trivial⟩
                  · skip
                    refine any_o (T := fun _ => False) 1 rfl rfl rfl rfl (by intro p hp; simp only [List.mem_cons, List.not_mem_nil, or_false] at hp; all_goals (first | exact hp.elim | (subst hp; exact ⟨by simp, _, _, rfl⟩) | (rcases hp with rfl | rfl <;> exact ⟨by simp, _, _, rfl⟩) | (rcases hp with rfl | rfl | rfl <;> exact ⟨by simp, _, _, rfl⟩) | (rcases hp with rfl | rfl | rfl | rfl <;> exact ⟨by simp, _, _, rfl⟩) | (rcases hp with rfl | rfl | rfl | rfl | rfl <;> exact ⟨by simp, _, _, rfl⟩))) (op_lit sl36 [.const _, .const _] ti9 rfl rfl rfl rfl rfl rfl rfl (by decide) (by decide) (by decide) (by simp only [List.length_cons, List.length_nil, Nat.reduceAdd]; rfl) rfl ?_)
                    refine any_st (T := fun _ => False) 8 rfl rfl (by kernel_rfl) rfl rfl (by intro p hp; simp only [List.mem_cons, List.not_mem_nil, or_false] at hp; all_goals (first | exact hp.elim | (subst hp; exact ⟨by simp, _, _, rfl⟩) | (rcases hp with rfl | rfl <;> exact ⟨by simp, _, _, rfl⟩) | (rcases hp with rfl | rfl | rfl <;> exact ⟨by simp, _, _, rfl⟩) | (rcases hp with rfl | rfl | rfl | rfl <;> exact ⟨by simp, _, _, rfl⟩) | (rcases hp with rfl | rfl | rfl | rfl | rfl <;> exact ⟨by simp, _, _, rfl⟩))) (op_lit sl39 [.tmp 82, .tmp 85] ti3 rfl rfl rfl rfl rfl rfl rfl (by decide) (by decide) (by decide) (by simp only [List.length_cons, List.length_nil, Nat.reduceAdd]; rfl) rfl ?_)
                    refine any_st (T := fun _ => False) 9 rfl rfl (by kernel_rfl) rfl rfl (by intro p hp; simp only [List.mem_cons, List.not_mem_nil, or_false] at hp; all_goals (first | exact hp.elim | (subst hp; exact ⟨by simp, _, _, rfl⟩) | (rcases hp with rfl | rfl <;> exact ⟨by simp, _, _, rfl⟩) | (rcases hp with rfl | rfl | rfl <;> exact ⟨by simp, _, _, rfl⟩) | (rcases hp with rfl | rfl | rfl | rfl <;> exact ⟨by simp, _, _, rfl⟩) | (rcases hp with rfl | rfl | rfl | rfl | rfl <;> exact ⟨by simp, _, _, rfl⟩))) (op_call ca12 rfl rfl rfl rfl (hW2) (.cons (by first | exact .refl _ | exact .toD rfl | exact .nilD | exact .dle rfl (by repeat' (first | exact DLe.refl _ | exact DLe.nil | exact DLeL.nil | exact DLeLL.nil | apply DLe.agg | apply DLe.tup | apply DLe.sl | apply DLe.cp | apply DLeL.cons | apply DLeLL.cons))) (.cons (by first | exact .refl _ | exact .toD rfl | exact .nilD | exact .dle rfl (by repeat' (first | exact DLe.refl _ | exact DLe.nil | exact DLeL.nil | exact DLeLL.nil | apply DLe.agg | apply DLe.tup | apply DLe.sl | apply DLe.cp | apply DLeL.cons | apply DLeLL.cons))) (.cons (by first | exact .refl _ | exact .toD rfl | exact .nilD | exact .dle rfl (by repeat' (first | exact DLe.refl _ | exact DLe.nil | exact DLeL.nil | exact DLeLL.nil | apply DLe.agg | apply DLe.tup | apply DLe.sl | apply DLe.cp | apply DLeL.cons | apply DLeLL.cons))) .nil))) (fun d hd => ?_))
                    obtain rfl := hd
                    refine any_fl 10 rfl rfl rfl rfl (by kernel_rfl) rfl (fl_assign rfl rfl ⟨_, rfl, ?_⟩)
                    refine any_end (by kernel_rfl) ?_
                    refine seq_back ?_
                    refine back_i (()) rfl ?_ ?_
                    · trivial
                    · refine meets_of rfl rfl rfl ?_ (.cons rfl (by first | exact .refl _ | exact .toD rfl | exact .nilD | exact Fit.of_eq rfl | exact .dle rfl (by repeat' (first | exact DLe.refl _ | exact DLe.nil | exact DLeL.nil | exact DLeLL.nil | apply DLe.agg | apply DLe.tup | apply DLe.sl | apply DLe.cp | apply DLeL.cons | apply DLeLL.cons))) (.cons rfl (by first | exact .refl _ | exact .toD rfl | exact .nilD | exact Fit.of_eq rfl | exact .dle rfl (by repeat' (first | exact DLe.refl _ | exact DLe.nil | exact DLeL.nil | exact DLeLL.nil | apply DLe.agg | apply DLe.tup | apply DLe.sl | apply DLe.cp | apply DLeL.cons | apply DLeLL.cons))) (.cons rfl (by first | exact .refl _ | exact .toD rfl | exact .nilD | exact Fit.of_eq rfl | exact .dle rfl (by repeat' (first | exact DLe.refl _ | exact DLe.nil | exact DLeL.nil | exact DLeLL.nil | apply DLe.agg | apply DLe.tup | apply DLe.sl | apply DLe.cp | apply DLeL.cons | apply DLeLL.cons))) (.cons rfl (by first | exact .refl _ | exact .toD rfl | exact .nilD | exact Fit.of_eq rfl | exact .dle rfl (by repeat' (first | exact DLe.refl _ | exact DLe.nil | exact DLeL.nil | exact DLeLL.nil | apply DLe.agg | apply DLe.tup | apply DLe.sl | apply DLe.cp | apply DLeL.cons | apply DLeLL.cons))) .nil))))
                      repeat (first | exact .nil | refine .cons rfl (.cells rfl (FitL.rfl _)) ?_ | refine .cons rfl (.cells rfl (by repeat (first | exact .nil | refine .cons (by first | exact .refl _ | exact .toD rfl | exact .nil rfl | exact .nilD | exact Fit.of_eq rfl) ?_))) ?_ | refine .cons rfl .row ?_ | refine .cons rfl .mapI ?_ | refine .cons rfl .nnrow ?_ | refine .cons rfl .nrow ?_ | refine .cons rfl .dead ?_)
                  · skip
                    refine any_o (T := fun _ => False) 8 rfl rfl rfl rfl (by intro p hp; simp only [List.mem_cons, List.not_mem_nil, or_false] at hp; all_goals (first | exact hp.elim | (subst hp; exact ⟨by simp, _, _, rfl⟩) | (rcases hp with rfl | rfl <;> exact ⟨by simp, _, _, rfl⟩) | (rcases hp with rfl | rfl | rfl <;> exact ⟨by simp, _, _, rfl⟩) | (rcases hp with rfl | rfl | rfl | rfl <;> exact ⟨by simp, _, _, rfl⟩) | (rcases hp with rfl | rfl | rfl | rfl | rfl <;> exact ⟨by simp, _, _, rfl⟩))) (op_lit sl39 [.tmp 82, .tmp 85] ti3 rfl rfl rfl rfl rfl rfl rfl (by decide) (by decide) (by decide) (by simp only [List.length_cons, List.length_nil, Nat.reduceAdd]; rfl) rfl ?_)
                    refine any_st (T := fun _ => False) 1 rfl rfl (by kernel_rfl) rfl rfl (by intro p hp; simp only [List.mem_cons, List.not_mem_nil, or_false] at hp; all_goals (first | exact hp.elim | (subst hp; exact ⟨by simp, _, _, rfl⟩) | (rcases hp with rfl | rfl <;> exact ⟨by simp, _, _, rfl⟩) | (rcases hp with rfl | rfl | rfl <;> exact ⟨by simp, _, _, rfl⟩) | (rcases hp with rfl | rfl | rfl | rfl <;> exact ⟨by simp, _, _, rfl⟩) | (rcases hp with rfl | rfl | rfl | rfl | rfl <;> exact ⟨by simp, _, _, rfl⟩))) (op_lit sl36 [.const _, .const _] ti9 rfl rfl rfl rfl rfl rfl rfl (by decide) (by decide) (by decide) (by simp only [List.length_cons, List.length_nil, Nat.reduceAdd]; rfl) rfl ?_)
                    refine any_st (T := fun _ => False) 9 rfl rfl (by kernel_rfl) rfl rfl (by intro p hp; simp only [List.mem_cons, List.not_mem_nil, or_false] at hp; all_goals (first | exact hp.elim | (subst hp; exact ⟨by simp, _, _, rfl⟩) | (rcases hp with rfl | rfl <;> exact ⟨by simp, _, _, rfl⟩) | (rcases hp with rfl | rfl | rfl <;> exact ⟨by simp, _, _, rfl⟩) | (rcases hp with rfl | rfl | rfl | rfl <;> exact ⟨by simp, _, _, rfl⟩) | (rcases hp with rfl | rfl | rfl | rfl | rfl <;> exact ⟨by simp, _, _, rfl⟩))) (op_call ca12 rfl rfl rfl rfl (hW2) (.cons (by first | exact .refl _ | exact .toD rfl | exact .nilD | exact .dle rfl (by repeat' (first | exact DLe.refl _ | exact DLe.nil | exact DLeL.nil | exact DLeLL.nil | apply DLe.agg | apply DLe.tup | apply DLe.sl | apply DLe.cp | apply DLeL.cons | apply DLeLL.cons))) (.cons (by first | exact .refl _ | exact .toD rfl | exact .nilD | exact .dle rfl (by repeat' (first | exact DLe.refl _ | exact DLe.nil | exact DLeL.nil | exact DLeLL.nil | apply DLe.agg | apply DLe.tup | apply DLe.sl | apply DLe.cp | apply DLeL.cons | apply DLeLL.cons))) (.cons (by first | exact .refl _ | exact .toD rfl | exact .nilD | exact .dle rfl (by repeat' (first | exact DLe.refl _ | exact DLe.nil | exact DLeL.nil | exact DLeLL.nil | apply DLe.agg | apply DLe.tup | apply DLe.sl | apply DLe.cp | apply DLeL.cons | apply DLeLL.cons))) .nil))) (fun d hd => ?_))
                    obtain rfl := hd
                    refine any_fl 10 rfl rfl rfl rfl (by kernel_rfl) rfl (fl_assign rfl rfl ⟨_, rfl, ?_⟩)
                    refine any_end (by kernel_rfl) ?_
                    refine seq_back ?_
                    refine back_i (()) rfl ?_ ?_
                    · trivial
                    · refine meets_of rfl rfl rfl ?_ (.cons rfl (by first | exact .refl _ | exact .toD rfl | exact .nilD | exact Fit.of_eq rfl | exact .dle rfl (by repeat' (first | exact DLe.refl _ | exact DLe.nil | exact DLeL.nil | exact DLeLL.nil | apply DLe.agg | apply DLe.tup | apply DLe.sl | apply DLe.cp | apply DLeL.cons | apply DLeLL.cons))) (.cons rfl (by first | exact .refl _ | exact .toD rfl | exact .nilD | exact Fit.of_eq rfl | exact .dle rfl (by repeat' (first | exact DLe.refl _ | exact DLe.nil | exact DLeL.nil | exact DLeLL.nil | apply DLe.agg | apply DLe.tup | apply DLe.sl | apply DLe.cp | apply DLeL.cons | apply DLeLL.cons))) (.cons rfl (by first | exact .refl _ | exact .toD rfl | exact .nilD | exact Fit.of_eq rfl | exact .dle rfl (by repeat' (first | exact DLe.refl _ | exact DLe.nil | exact DLeL.nil | exact DLeLL.nil | apply DLe.agg | apply DLe.tup | apply DLe.sl | apply DLe.cp | apply DLeL.cons | apply DLeLL.cons))) (.cons rfl (by first | exact .refl _ | exact .toD rfl | exact .nilD | exact Fit.of_eq rfl | exact .dle rfl (by repeat' (first | exact DLe.refl _ | exact DLe.nil | exact DLeL.nil | exact DLeLL.nil | apply DLe.agg | apply DLe.tup | apply DLe.sl | apply DLe.cp | apply DLeL.cons | apply DLeLL.cons))) .nil))))
                      repeat (first | exact .nil | refine .cons rfl (.cells rfl (FitL.rfl _)) ?_ | refine .cons rfl (.cells rfl (by repeat (first | exact .nil | refine .cons (by first | exact .refl _ | exact .toD rfl | exact .nil rfl | exact .nilD | exact Fit.of_eq rfl) ?_))) ?_ | refine .cons rfl .row ?_ | refine .cons rfl .mapI ?_ | refine .cons rfl .nnrow ?_ | refine .cons rfl .nrow ?_ | refine .cons rfl .dead ?_)
            case h2 =>
              rintro _ hcut
              try dsimp only at hcut
              refine runs_keep [13, 10, 3, 1] rfl ?_
              refine runs_seq ?_
              refine any_start mixed rfl rfl ?_
              refine any_fl 0 rfl rfl rfl rfl (by kernel_rfl) rfl (fl_move rfl rfl ⟨_, rfl, ?_⟩)
              refine any_fl 1 rfl rfl rfl rfl (by kernel_rfl) rfl (fl_move rfl rfl ⟨_, rfl, ?_⟩)
              refine any_split 89 rfl (fun hc => ?_) (fun hc => ?_)
              · try simp only [decide_eq_true_eq, decide_eq_false_iff_not, Bool.not_eq_true', Bool.not_eq_false', Bool.not_true, Bool.not_false, Int.not_lt, Int.not_le, Bool.and_eq_true, Bool.or_eq_true, Bool.and_eq_false_iff, Bool.or_eq_false_iff, Bool.false_eq_true, Bool.true_eq_false, not_true_eq_false, not_false_eq_true, decide_true, decide_false, true_and, and_true, false_and, and_false, true_or, or_true, false_or, or_false, Bool.true_and, Bool.false_and, Bool.and_true, Bool.and_false, Bool.true_or, Bool.false_or, Bool.or_true, Bool.or_false, Int.reduceEq, Int.reduceNe, Int.reduceLT, Int.reduceLE, Int.toNat_natCast, toNat_add1] at hc
                all_goals try (first | contradiction | (exfalso; omega))
                all_goals (
                  refine any_fl_yes 2 rfl rfl rfl rfl rfl rfl (by kernel_rfl) rfl (fl_move rfl rfl ⟨_, rfl, ?_⟩)
                  first
                  | refine any_fl_yes 3 rfl rfl rfl rfl rfl rfl (by kernel_rfl) rfl (fl_load_blk ti31 rfl rfl rfl rfl rfl rfl rfl ⟨_, rfl, ?_⟩)
                  | refine any_fl_yes 3 rfl rfl rfl rfl rfl rfl (by kernel_rfl) rfl (fl_load_cp ti31 rfl rfl rfl rfl rfl rfl ⟨_, rfl, ?_⟩)
                  | refine any_fl_yes 3 rfl rfl rfl rfl rfl rfl (by kernel_rfl) rfl (fl_load_all ti31 rfl rfl rfl rfl (by first | rfl | exact Lvl.cells_len _) ⟨_, rfl, ?_⟩)
                  first
                  | refine any_fl_yes 5 rfl rfl rfl rfl rfl rfl (by kernel_rfl) rfl (fl_field_blk ti25 rfl rfl rfl rfl ⟨_, rfl, ?_⟩)
                  | refine any_fl_yes 5 rfl rfl rfl rfl rfl rfl (by kernel_rfl) rfl (fl_field_cp ti25 rfl rfl rfl rfl rfl ⟨_, rfl, ?_⟩)
                  first
                  | refine any_fl_yes 6 rfl rfl rfl rfl rfl rfl (by kernel_rfl) rfl (fl_load_blk ti3 rfl rfl rfl rfl rfl rfl rfl ⟨_, rfl, ?_⟩)
                  | refine any_fl_yes 6 rfl rfl rfl rfl rfl rfl (by kernel_rfl) rfl (fl_load_cp ti3 rfl rfl rfl rfl rfl rfl ⟨_, rfl, ?_⟩)
                  first
                  | refine any_fl_yes 8 rfl rfl rfl rfl rfl rfl (by kernel_rfl) rfl (fl_field_blk ti25 rfl rfl rfl rfl ⟨_, rfl, ?_⟩)
                  | refine any_fl_yes 8 rfl rfl rfl rfl rfl rfl (by kernel_rfl) rfl (fl_field_cp ti25 rfl rfl rfl rfl rfl ⟨_, rfl, ?_⟩)
                  first
                  | refine any_fl_yes 9 rfl rfl rfl rfl rfl rfl (by kernel_rfl) rfl (fl_load_blk ti3 rfl rfl rfl rfl rfl rfl rfl ⟨_, rfl, ?_⟩)
                  | refine any_fl_yes 9 rfl rfl rfl rfl rfl rfl (by kernel_rfl) rfl (fl_load_cp ti3 rfl rfl rfl rfl rfl rfl ⟨_, rfl, ?_⟩)
                  refine any_many (rs := [4, 7]) (by kernel_rfl) rfl ⟨?_, ?_, trivial⟩
                  · skip
                    refine any_o_yes (T := fun _ => False) 4 rfl rfl rfl rfl rfl rfl (by intro p hp; simp only [List.mem_cons, List.not_mem_nil, or_false] at hp; all_goals (first | exact hp.elim | (subst hp; exact ⟨by simp, _, _, rfl⟩) | (rcases hp with rfl | rfl <;> exact ⟨by simp, _, _, rfl⟩) | (rcases hp with rfl | rfl | rfl <;> exact ⟨by simp, _, _, rfl⟩) | (rcases hp with rfl | rfl | rfl | rfl <;> exact ⟨by simp, _, _, rfl⟩) | (rcases hp with rfl | rfl | rfl | rfl | rfl <;> exact ⟨by simp, _, _, rfl⟩))) (op_lit sl36 [.const _, .const _] ti9 rfl rfl rfl rfl rfl rfl rfl (by decide) (by decide) (by decide) (by simp only [List.length_cons, List.length_nil, Nat.reduceAdd]; rfl) rfl ?_)
                    refine any_st_yes (T := fun _ => False) 7 rfl rfl rfl rfl (by kernel_rfl) rfl rfl (by intro p hp; simp only [List.mem_cons, List.not_mem_nil, or_false] at hp; all_goals (first | exact hp.elim | (subst hp; exact ⟨by simp, _, _, rfl⟩) | (rcases hp with rfl | rfl <;> exact ⟨by simp, _, _, rfl⟩) | (rcases hp with rfl | rfl | rfl <;> exact ⟨by simp, _, _, rfl⟩) | (rcases hp with rfl | rfl | rfl | rfl <;> exact ⟨by simp, _, _, rfl⟩) | (rcases hp with rfl | rfl | rfl | rfl | rfl <;> exact ⟨by simp, _, _, rfl⟩))) (op_call ca11 rfl rfl rfl rfl (limit_spec A hA.1 hA.2) (.cons (by first | exact .refl _ | exact .toD rfl | exact .nilD | exact .dle rfl (by repeat' (first | exact DLe.refl _ | exact DLe.nil | exact DLeL.nil | exact DLeLL.nil | apply DLe.agg | apply DLe.tup | apply DLe.sl | apply DLe.cp | apply DLeL.cons | apply DLeLL.cons))) .nil) (fun d hd => ?_))
                    obtain rfl := hd
                    refine any_st_yes (T := fun _ => False) 10 rfl rfl rfl rfl (by kernel_rfl) rfl rfl (by intro p hp; simp only [List.mem_cons, List.not_mem_nil, or_false] at hp; all_goals (first | exact hp.elim | (subst hp; exact ⟨by simp, _, _, rfl⟩) | (rcases hp with rfl | rfl <;> exact ⟨by simp, _, _, rfl⟩) | (rcases hp with rfl | rfl | rfl <;> exact ⟨by simp, _, _, rfl⟩) | (rcases hp with rfl | rfl | rfl | rfl <;> exact ⟨by simp, _, _, rfl⟩) | (rcases hp with rfl | rfl | rfl | rfl | rfl <;> exact ⟨by simp, _, _, rfl⟩))) (op_call ca11 rfl rfl rfl rfl (limit_spec B hB.1 hB.2) (.cons (by first | exact .refl _ | exact .toD rfl | exact .nilD | exact .dle rfl (by repeat' (first | exact DLe.refl _ | exact DLe.nil | exact DLeL.nil | exact DLeLL.nil | apply DLe.agg | apply DLe.tup | apply DLe.sl | apply DLe.cp | apply DLeL.cons | apply DLeLL.cons))) .nil) (fun d hd => ?_))
                    obtain rfl := hd
                    refine any_st_yes (T := fun _ => False) 11 rfl rfl rfl rfl (by kernel_rfl) rfl rfl (by intro p hp; simp only [List.mem_cons, List.not_mem_nil, or_false] at hp; all_goals (first | exact hp.elim | (subst hp; exact ⟨by simp, _, _, rfl⟩) | (rcases hp with rfl | rfl <;> exact ⟨by simp, _, _, rfl⟩) | (rcases hp with rfl | rfl | rfl <;> exact ⟨by simp, _, _, rfl⟩) | (rcases hp with rfl | rfl | rfl | rfl <;> exact ⟨by simp, _, _, rfl⟩) | (rcases hp with rfl | rfl | rfl | rfl | rfl <;> exact ⟨by simp, _, _, rfl⟩))) (op_lit sl39 [.tmp 95, .tmp 98] ti3 rfl rfl rfl rfl rfl rfl rfl (by decide) (by decide) (by decide) (by simp only [List.length_cons, List.length_nil, Nat.reduceAdd]; rfl) rfl ?_)
                    refine any_st_yes (T := fun _ => False) 12 rfl rfl rfl rfl (by kernel_rfl) rfl rfl (by intro p hp; simp only [List.mem_cons, List.not_mem_nil, or_false] at hp; all_goals (first | exact hp.elim | (subst hp; exact ⟨by simp, _, _, rfl⟩) | (rcases hp with rfl | rfl <;> exact ⟨by simp, _, _, rfl⟩) | (rcases hp with rfl | rfl | rfl <;> exact ⟨by simp, _, _, rfl⟩) | (rcases hp with rfl | rfl | rfl | rfl <;> exact ⟨by simp, _, _, rfl⟩) | (rcases hp with rfl | rfl | rfl | rfl | rfl <;> exact ⟨by simp, _, _, rfl⟩))) (op_call ca23 rfl rfl rfl rfl (hW) (.cons (by first | exact .refl _ | exact .toD rfl | exact .nilD | exact .dle rfl (by repeat' (first | exact DLe.refl _ | exact DLe.nil | exact DLeL.nil | exact DLeLL.nil | apply DLe.agg | apply DLe.tup | apply DLe.sl | apply DLe.cp | apply DLeL.cons | apply DLeLL.cons))) (.cons (by first | exact .refl _ | exact .toD rfl | exact .nilD | exact .dle rfl (by repeat' (first | exact DLe.refl _ | exact DLe.nil | exact DLeL.nil | exact DLeLL.nil | apply DLe.agg | apply DLe.tup | apply DLe.sl | apply DLe.cp | apply DLeL.cons | apply DLeLL.cons))) (.cons (by first | exact .refl _ | exact .toD rfl | exact .nilD | exact .dle rfl (by repeat' (first | exact DLe.refl _ | exact DLe.nil | exact DLeL.nil | exact DLeLL.nil | apply DLe.agg | apply DLe.tup | apply DLe.sl | apply DLe.cp | apply DLeL.cons | apply DLeLL.cons))) .nil))) (fun d hd => ?_))
                    obtain rfl := hd
                    refine any_fl_yes 13 rfl rfl rfl rfl rfl rfl (by kernel_rfl) rfl (fl_eql rfl rfl rfl ⟨_, rfl, ?_⟩)
                    first
                    | refine any_fl 14 rfl rfl rfl rfl (by kernel_rfl) rfl (fl_pick_t rfl rfl rfl ⟨_, rfl, ?_⟩)
                    | refine any_fl 14 rfl rfl rfl rfl (by kernel_rfl) rfl (fl_pick_f rfl rfl rfl ⟨_, rfl, ?_⟩)
                    | refine any_fl 14 rfl rfl rfl rfl (by kernel_rfl) rfl (fl_pick_b rfl rfl rfl rfl ⟨_, rfl, ?_⟩)
                    refine any_fl 15 rfl rfl rfl rfl (by kernel_rfl) rfl (fl_assign rfl rfl ⟨_, rfl, ?_⟩)
                    refine any_end (by kernel_rfl) ?_
                    refine seq_normal ?_
                    refine runs_ret ?_
                    refine fin_ret ?_
                    refine fin_d1 rfl rfl ?_
                    simp
                  · skip
                    refine any_o_yes (T := fun _ => False) 7 rfl rfl rfl rfl rfl rfl (by intro p hp; simp only [List.mem_cons, List.not_mem_nil, or_false] at hp; all_goals (first | exact hp.elim | (subst hp; exact ⟨by simp, _, _, rfl⟩) | (rcases hp with rfl | rfl <;> exact ⟨by simp, _, _, rfl⟩) | (rcases hp with rfl | rfl | rfl <;> exact ⟨by simp, _, _, rfl⟩) | (rcases hp with rfl | rfl | rfl | rfl <;> exact ⟨by simp, _, _, rfl⟩) | (rcases hp with rfl | rfl | rfl | rfl | rfl <;> exact ⟨by simp, _, _, rfl⟩))) (op_call ca11 rfl rfl rfl rfl (limit_spec A hA.1 hA.2) (.cons (by first | exact .refl _ | exact .toD rfl | exact .nilD | exact .dle rfl (by repeat' (first | exact DLe.refl _ | exact DLe.nil | exact DLeL.nil | exact DLeLL.nil | apply DLe.agg | apply DLe.tup | apply DLe.sl | apply DLe.cp | apply DLeL.cons | apply DLeLL.cons))) .nil) (fun d hd => ?_))
                    obtain rfl := hd
                    refine any_many (rs := [4, 10]) (by kernel_rfl) rfl ⟨?_, ?_, trivial⟩
                    · skip
                      refine any_o_yes (T := fun _ => False) 4 rfl rfl rfl rfl rfl rfl (by intro p hp; simp only [List.mem_cons, List.not_mem_nil, or_false] at hp; all_goals (first | exact hp.elim | (subst hp; exact ⟨by simp, _, _, rfl⟩) | (rcases hp with rfl | rfl <;> exact ⟨by simp, _, _, rfl⟩) | (rcases hp with rfl | rfl | rfl <;> exact ⟨by simp, _, _, rfl⟩) | (rcases hp with rfl | rfl | rfl | rfl <;> exact ⟨by simp, _, _, rfl⟩) | (rcases hp with rfl | rfl | rfl | rfl | rfl <;> exact ⟨by simp, _, _, rfl⟩))) (op_lit sl36 [.const _, .const _] ti9 rfl rfl rfl rfl rfl rfl rfl (by decide) (by decide) (by decide) (by simp only [List.length_cons, List.length_nil, Nat.reduceAdd]; rfl) rfl ?_)
                      refine any_st_yes (T := fun _ => False) 10 rfl rfl rfl rfl (by kernel_rfl) rfl rfl (by intro p hp; simp only [List.mem_cons, List.not_mem_nil, or_false] at hp; all_goals (first | exact hp.elim | (subst hp; exact ⟨by simp, _, _, rfl⟩) | (rcases hp with rfl | rfl <;> exact ⟨by simp, _, _, rfl⟩) | (rcases hp with rfl | rfl | rfl <;> exact ⟨by simp, _, _, rfl⟩) | (rcases hp with rfl | rfl | rfl | rfl <;> exact ⟨by simp, _, _, rfl⟩) | (rcases hp with rfl | rfl | rfl | rfl | rfl <;> exact ⟨by simp, _, _, rfl⟩))) (op_call ca11 rfl rfl rfl rfl (limit_spec B hB.1 hB.2) (.cons (by first | exact .refl _ | exact .toD rfl | exact .nilD | exact .dle rfl (by repeat' (first | exact DLe.refl _ | exact DLe.nil | exact DLeL.nil | exact DLeLL.nil | apply DLe.agg | apply DLe.tup | apply DLe.sl | apply DLe.cp | apply DLeL.cons | apply DLeLL.cons))) .nil) (fun d hd => ?_))
                      obtain rfl := hd
                      refine any_st_yes (T := fun _ => False) 11 rfl rfl rfl rfl (by kernel_rfl) rfl rfl (by intro p hp; simp only [List.mem_cons, List.not_mem_nil, or_false] at hp; all_goals (first | exact hp.elim | (subst hp; exact ⟨by simp, _, _, rfl⟩) | (rcases hp with rfl | rfl <;> exact ⟨by simp, _, _, rfl⟩) | (rcases hp with rfl | rfl | rfl <;> exact ⟨by simp, _, _, rfl⟩) | (rcases hp with rfl | rfl | rfl | rfl <;> exact ⟨by simp, _, _, rfl⟩) | (rcases hp with rfl | rfl | rfl | rfl | rfl <;> exact ⟨by simp, _, _, rfl⟩))) (op_lit sl39 [.tmp 95, .tmp 98] ti3 rfl rfl rfl rfl rfl rfl rfl (by decide) (by decide) (by decide) (by simp only [List.length_cons, List.length_nil, Nat.reduceAdd]; rfl) rfl ?_)
                      refine any_st_yes (T := fun _ => False) 12 rfl rfl rfl rfl (by kernel_rfl) rfl rfl (by intro p hp; simp only [List.mem_cons, List.not_mem_nil, or_false] at hp; all_goals (first | exact hp.elim | (subst hp; exact ⟨by simp, _, _, rfl⟩) | (rcases hp with rfl | rfl <;> exact ⟨by simp, _, _, rfl⟩) | (rcases hp with rfl | rfl | rfl <;> exact ⟨by simp, _, _, rfl⟩) | (rcases hp with rfl | rfl | rfl | rfl <;> exact ⟨by simp, _, _, rfl⟩) | (rcases hp with rfl | rfl | rfl | rfl | rfl <;> exact ⟨by simp, _, _, rfl⟩))) (op_call ca23 rfl rfl rfl rfl (hW) (.cons (by first | exact .refl _ | exact .toD rfl | exact .nilD | exact .dle rfl (by repeat' (first | exact DLe.refl _ | exact DLe.nil | exact DLeL.nil | exact DLeLL.nil | apply DLe.agg | apply DLe.tup | apply DLe.sl | apply DLe.cp | apply DLeL.cons | apply DLeLL.cons))) (.cons (by first | exact .refl _ | exact .toD rfl | exact .nilD | exact .dle rfl (by repeat' (first | exact DLe.refl _ | exact DLe.nil | exact DLeL.nil | exact DLeLL.nil | apply DLe.agg | apply DLe.tup | apply DLe.sl | apply DLe.cp | apply DLeL.cons | apply DLeLL.cons))) (.cons (by first | exact .refl _ | exact .toD rfl | exact .nilD | exact .dle rfl (by repeat' (first | exact DLe.refl _ | exact DLe.nil | exact DLeL.nil | exact DLeLL.nil | apply DLe.agg | apply DLe.tup | apply DLe.sl | apply DLe.cp | apply DLeL.cons | apply DLeLL.cons))) .nil))) (fun d hd => ?_))
                      obtain rfl := hd
                      refine any_fl_yes 13 rfl rfl rfl rfl rfl rfl (by kernel_rfl) rfl (fl_eql rfl rfl rfl ⟨_, rfl, ?_⟩)
                      first
                      | refine any_fl 14 rfl rfl rfl rfl (by kernel_rfl) rfl (fl_pick_t rfl rfl rfl ⟨_, rfl, ?_⟩)
                      | refine any_fl 14 rfl rfl rfl rfl (by kernel_rfl) rfl (fl_pick_f rfl rfl rfl ⟨_, rfl, ?_⟩)
                      | refine any_fl 14 rfl rfl rfl rfl (by kernel_rfl) rfl (fl_pick_b rfl rfl rfl rfl ⟨_, rfl, ?_⟩)
                      refine any_fl 15 rfl rfl rfl rfl (by kernel_rfl) rfl (fl_assign rfl rfl ⟨_, rfl, ?_⟩)
                      refine any_end (by kernel_rfl) ?_
                      refine seq_normal ?_
                      refine runs_ret ?_
                      refine fin_ret ?_
                      refine fin_d1 rfl rfl ?_
                      simp
                    · skip
                      refine any_o_yes (T := fun _ => False) 10 rfl rfl rfl rfl rfl rfl (by intro p hp; simp only [List.mem_cons, List.not_mem_nil, or_false] at hp; all_goals (first | exact hp.elim | (subst hp; exact ⟨by simp, _, _, rfl⟩) | (rcases hp with rfl | rfl <;> exact ⟨by simp, _, _, rfl⟩) | (rcases hp with rfl | rfl | rfl <;> exact ⟨by simp, _, _, rfl⟩) | (rcases hp with rfl | rfl | rfl | rfl <;> exact ⟨by simp, _, _, rfl⟩) | (rcases hp with rfl | rfl | rfl | rfl | rfl <;> exact ⟨by simp, _, _, rfl⟩))) (op_call ca11 rfl rfl rfl rfl (limit_spec B hB.1 hB.2) (.cons (by first | exact .refl _ | exact .toD rfl | exact .nilD | exact .dle rfl (by repeat' (first | exact DLe.refl _ | exact DLe.nil | exact DLeL.nil | exact DLeLL.nil | apply DLe.agg | apply DLe.tup | apply DLe.sl | apply DLe.cp | apply DLeL.cons | apply DLeLL.cons))) .nil) (fun d hd => ?_))
                      obtain rfl := hd
                      refine any_many (rs := [4, 11]) (by kernel_rfl) rfl ⟨?_, ?_, trivial⟩
                      · skip
                        refine any_o_yes (T := fun _ => False) 4 rfl rfl rfl rfl rfl rfl (by intro p hp; simp only [List.mem_cons, List.not_mem_nil, or_false] at hp; all_goals (first | exact hp.elim | (subst hp; exact ⟨by simp, _, _, rfl⟩) | (rcases hp with rfl | rfl <;> exact ⟨by simp, _, _, rfl⟩) | (rcases hp with rfl | rfl | rfl <;> exact ⟨by simp, _, _, rfl⟩) | (rcases hp with rfl | rfl | rfl | rfl <;> exact ⟨by simp, _, _, rfl⟩) | (rcases hp with rfl | rfl | rfl | rfl | rfl <;> exact ⟨by simp, _, _, rfl⟩))) (op_lit sl36 [.const _, .const _] ti9 rfl rfl rfl rfl rfl rfl rfl (by decide) (by decide) (by decide) (by simp only [List.length_cons, List.length_nil, Nat.reduceAdd]; rfl) rfl ?_)
                        refine any_st_yes (T := fun _ => False) 11 rfl rfl rfl rfl (by kernel_rfl) rfl rfl (by intro p hp; simp only [List.mem_cons, List.not_mem_nil, or_false] at hp; all_goals (first | exact hp.elim | (subst hp; exact ⟨by simp, _, _, rfl⟩) | (rcases hp with rfl | rfl <;> exact ⟨by simp, _, _, rfl⟩) | (rcases hp with rfl | rfl | rfl <;> exact ⟨by simp, _, _, rfl⟩) | (rcases hp with rfl | rfl | rfl | rfl <;> exact ⟨by simp, _, _, rfl⟩) | (rcases hp with rfl | rfl | rfl | rfl | rfl <;> exact ⟨by simp, _, _, rfl⟩))) (op_lit sl39 [.tmp 95, .tmp 98] ti3 rfl rfl rfl rfl rfl rfl rfl (by decide) (by decide) (by decide) (by simp only [List.length_cons, List.length_nil, Nat.reduceAdd]; rfl) rfl ?_)
                        refine any_st_yes (T := fun _ => False) 12 rfl rfl rfl rfl (by kernel_rfl) rfl rfl (by intro p hp; simp only [List.mem_cons, List.not_mem_nil, or_false] at hp; all_goals (first | exact hp.elim | (subst hp; exact ⟨by simp, _, _, rfl⟩) | (rcases hp with rfl | rfl <;> exact ⟨by simp, _, _, rfl⟩) | (rcases hp with rfl | rfl | rfl <;> exact ⟨by simp, _, _, rfl⟩) | (rcases hp with rfl | rfl | rfl | rfl <;> exact ⟨by simp, _, _, rfl⟩) | (rcases hp with rfl | rfl | rfl | rfl | rfl <;> exact ⟨by simp, _, _, rfl⟩))) (op_call ca23 rfl rfl rfl rfl (hW) (.cons (by first | exact .refl _ | exact .toD rfl | exact .nilD | exact .dle rfl (by repeat' (first | exact DLe.refl _ | exact DLe.nil | exact DLeL.nil | exact DLeLL.nil | apply DLe.agg | apply DLe.tup | apply DLe.sl | apply DLe.cp | apply DLeL.cons | apply DLeLL.cons))) (.cons (by first | exact .refl _ | exact .toD rfl | exact .nilD | exact .dle rfl (by repeat' (first | exact DLe.refl _ | exact DLe.nil | exact DLeL.nil | exact DLeLL.nil | apply DLe.agg | apply DLe.tup | apply DLe.sl | apply DLe.cp | apply DLeL.cons | apply DLeLL.cons))) (.cons (by first | exact .refl _ | exact .toD rfl | exact .nilD | exact .dle rfl (by repeat' (first | exact DLe.refl _ | exact DLe.nil | exact DLeL.nil | exact DLeLL.nil | apply DLe.agg | apply DLe.tup | apply DLe.sl | apply DLe.cp | apply DLeL.cons | apply DLeLL.cons))) .nil))) (fun d hd => ?_))
                        obtain rfl := hd
                        refine any_fl_yes 13 rfl rfl rfl rfl rfl rfl (by kernel_rfl) rfl (fl_eql rfl rfl rfl ⟨_, rfl, ?_⟩)
                        first
                        | refine any_fl 14 rfl rfl rfl rfl (by kernel_rfl) rfl (fl_pick_t rfl rfl rfl ⟨_, rfl, ?_⟩)
                        | refine any_fl 14 rfl rfl rfl rfl (by kernel_rfl) rfl (fl_pick_f rfl rfl rfl ⟨_, rfl, ?_⟩)
                        | refine any_fl 14 rfl rfl rfl rfl (by kernel_rfl) rfl (fl_pick_b rfl rfl rfl rfl ⟨_, rfl, ?_⟩)
                        refine any_fl 15 rfl rfl rfl rfl (by kernel_rfl) rfl (fl_assign rfl rfl ⟨_, rfl, ?_⟩)
                        refine any_end (by kernel_rfl) ?_
                        refine seq_normal ?_
                        refine runs_ret ?_
                        refine fin_ret ?_
                        refine fin_d1 rfl rfl ?_
                        simp
                      · skip
                        refine any_o_yes (T := fun _ => False) 11 rfl rfl rfl rfl rfl rfl (by intro p hp; simp only [List.mem_cons, List.not_mem_nil, or_false] at hp; all_goals (first | exact hp.elim | (subst hp; exact ⟨by simp, _, _, rfl⟩) | (rcases hp with rfl | rfl <;> exact ⟨by simp, _, _, rfl⟩) | (rcases hp with rfl | rfl | rfl <;> exact ⟨by simp, _, _, rfl⟩) | (rcases hp with rfl | rfl | rfl | rfl <;> exact ⟨by simp, _, _, rfl⟩) | (rcases hp with rfl | rfl | rfl | rfl | rfl <;> exact ⟨by simp, _, _, rfl⟩))) (op_lit sl39 [.tmp 95, .tmp 98] ti3 rfl rfl rfl rfl rfl rfl rfl (by decide) (by decide) (by decide) (by simp only [List.length_cons, List.length_nil, Nat.reduceAdd]; rfl) rfl ?_)
                        refine any_st_yes (T := fun _ => False) 4 rfl rfl rfl rfl (by kernel_rfl) rfl rfl (by intro p hp; simp only [List.mem_cons, List.not_mem_nil, or_false] at hp; all_goals (first | exact hp.elim | (subst hp; exact ⟨by simp, _, _, rfl⟩) | (rcases hp with rfl | rfl <;> exact ⟨by simp, _, _, rfl⟩) | (rcases hp with rfl | rfl | rfl <;> exact ⟨by simp, _, _, rfl⟩) | (rcases hp with rfl | rfl | rfl | rfl <;> exact ⟨by simp, _, _, rfl⟩) | (rcases hp with rfl | rfl | rfl | rfl | rfl <;> exact ⟨by simp, _, _, rfl⟩))) (op_lit sl36 [.const _, .const _] ti9 rfl rfl rfl rfl rfl rfl rfl (by decide) (by decide) (by decide) (by simp only [List.length_cons, List.length_nil, Nat.reduceAdd]; rfl) rfl ?_)
                        refine any_st_yes (T := fun _ => False) 12 rfl rfl rfl rfl (by kernel_rfl) rfl rfl (by intro p hp; simp only [List.mem_cons, List.not_mem_nil, or_false] at hp; all_goals (first | exact hp.elim | (subst hp; exact ⟨by simp, _, _, rfl⟩) | (rcases hp with rfl | rfl <;> exact ⟨by simp, _, _, rfl⟩) | (rcases hp with rfl | rfl | rfl <;> exact ⟨by simp, _, _, rfl⟩) | (rcases hp with rfl | rfl | rfl | rfl <;> exact ⟨by simp, _, _, rfl⟩) | (rcases hp with rfl | rfl | rfl | rfl | rfl <;> exact ⟨by simp, _, _, rfl⟩))) (op_call ca23 rfl rfl rfl rfl (hW) (.cons (by first | exact .refl _ | exact .toD rfl | exact .nilD | exact .dle rfl (by repeat' (first | exact DLe.refl _ | exact DLe.nil | exact DLeL.nil | exact DLeLL.nil | apply DLe.agg | apply DLe.tup | apply DLe.sl | apply DLe.cp | apply DLeL.cons | apply DLeLL.cons))) (.cons (by first | exact .refl _ | exact .toD rfl | exact .nilD | exact .dle rfl (by repeat' (first | exact DLe.refl _ | exact DLe.nil | exact DLeL.nil | exact DLeLL.nil | apply DLe.agg | apply DLe.tup | apply DLe.sl | apply DLe.cp | apply DLeL.cons | apply DLeLL.cons))) (.cons (by first | exact .refl _ | exact .toD rfl | exact .nilD | exact .dle rfl (by repeat' (first | exact DLe.refl _ | exact DLe.nil | exact DLeL.nil | exact DLeLL.nil | apply DLe.agg | apply DLe.tup | apply DLe.sl | apply DLe.cp | apply DLeL.cons | apply DLeLL.cons))) .nil))) (fun d hd => ?_))
                        obtain rfl := hd
                        refine any_fl_yes 13 rfl rfl rfl rfl rfl rfl (by kernel_rfl) rfl (fl_eql rfl rfl rfl ⟨_, rfl, ?_⟩)
                        first
                        | refine any_fl 14 rfl rfl rfl rfl (by kernel_rfl) rfl (fl_pick_t rfl rfl rfl ⟨_, rfl, ?_⟩)
                        | refine any_fl 14 rfl rfl rfl rfl (by kernel_rfl) rfl (fl_pick_f rfl rfl rfl ⟨_, rfl, ?_⟩)
                        | refine any_fl 14 rfl rfl rfl rfl (by kernel_rfl) rfl (fl_pick_b rfl rfl rfl rfl ⟨_, rfl, ?_⟩)
                        refine any_fl 15 rfl rfl rfl rfl (by kernel_rfl) rfl (fl_assign rfl rfl ⟨_, rfl, ?_⟩)
                        refine any_end (by kernel_rfl) ?_
                        refine seq_normal ?_
                        refine runs_ret ?_
                        refine fin_ret ?_
                        refine fin_d1 rfl rfl ?_
                        simp
                )
              · try simp only [decide_eq_true_eq, decide_eq_false_iff_not, Bool.not_eq_true', Bool.not_eq_false', Bool.not_true, Bool.not_false, Int.not_lt, Int.not_le, Bool.and_eq_true, Bool.or_eq_true, Bool.and_eq_false_iff, Bool.or_eq_false_iff, Bool.false_eq_true, Bool.true_eq_false, not_true_eq_false, not_false_eq_true, decide_true, decide_false, true_and, and_true, false_and, and_false, true_or, or_true, false_or, or_false, Bool.true_and, Bool.false_and, Bool.and_true, Bool.and_false, Bool.true_or, Bool.false_or, Bool.or_true, Bool.or_false, Int.reduceEq, Int.reduceNe, Int.reduceLT, Int.reduceLE, Int.toNat_natCast, toNat_add1] at hc
                all_goals try (first | contradiction | (exfalso; omega))
                all_goals (
                  refine any_fl_no 2 rfl rfl rfl (by first | exact .inl rfl | exact .inr rfl) rfl rfl (by kernel_rfl) rfl ?_
                  refine any_fl_no 3 rfl rfl rfl (by first | exact .inl rfl | exact .inr rfl) rfl rfl (by kernel_rfl) rfl ?_
                  refine any_fl_no 4 rfl rfl rfl (by first | exact .inl rfl | exact .inr rfl) rfl rfl (by kernel_rfl) rfl ?_
                  refine any_fl_no 5 rfl rfl rfl (by first | exact .inl rfl | exact .inr rfl) rfl rfl (by kernel_rfl) rfl ?_
                  refine any_fl_no 6 rfl rfl rfl (by first | exact .inl rfl | exact .inr rfl) rfl rfl (by kernel_rfl) rfl ?_
                  refine any_fl_no 7 rfl rfl rfl (by first | exact .inl rfl | exact .inr rfl) rfl rfl (by kernel_rfl) rfl ?_
                  refine any_fl_no 8 rfl rfl rfl (by first | exact .inl rfl | exact .inr rfl) rfl rfl (by kernel_rfl) rfl ?_
                  refine any_fl_no 9 rfl rfl rfl (by first | exact .inl rfl | exact .inr rfl) rfl rfl (by kernel_rfl) rfl ?_
                  refine any_fl_no 10 rfl rfl rfl (by first | exact .inl rfl | exact .inr rfl) rfl rfl (by kernel_rfl) rfl ?_
                  refine any_fl_no 11 rfl rfl rfl (by first | exact .inl rfl | exact .inr rfl) rfl rfl (by kernel_rfl) rfl ?_
                  refine any_fl_no 12 rfl rfl rfl (by first | exact .inl rfl | exact .inr rfl) rfl rfl (by kernel_rfl) rfl ?_
                  refine any_fl_no 13 rfl rfl rfl (by first | exact .inl rfl | exact .inr rfl) rfl rfl (by kernel_rfl) rfl ?_
                  first
                  | refine any_fl 14 rfl rfl rfl rfl (by kernel_rfl) rfl (fl_pick_t rfl rfl rfl ⟨_, rfl, ?_⟩)
                  | refine any_fl 14 rfl rfl rfl rfl (by kernel_rfl) rfl (fl_pick_f rfl rfl rfl ⟨_, rfl, ?_⟩)
                  | refine any_fl 14 rfl rfl rfl rfl (by kernel_rfl) rfl (fl_pick_b rfl rfl rfl rfl ⟨_, rfl, ?_⟩)
                  refine any_fl 15 rfl rfl rfl rfl (by kernel_rfl) rfl (fl_assign rfl rfl ⟨_, rfl, ?_⟩)
                  refine any_end (by kernel_rfl) ?_
                  refine seq_normal ?_
                  refine runs_ret ?_
                  refine fin_ret ?_
                  refine fin_d1 rfl rfl ?_
                  simp
                )
        )
    )
end Go.Proofs.YtafhnnbbfgoacaaDoor
