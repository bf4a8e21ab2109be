/-
  What is proved here: contracts of errors.As, api.Code, faulty, levelParsed, LevelParses.
-/
import Derived.Test.YtafhnnbbfgoacaaDoorYAs
import Derived.Test.YtafhnnbbfgoacaaDoorYSt
set_option linter.unusedSimpArgs false
set_option linter.unusedVariables false
namespace Go.Proofs.YtafhnnbbfgoacaaDoor
open Go Go.Vd Go.RowKit
attribute [local irreducible] Runs OpsR OpR FloatR AnyR AnyO
variable {gl : Nat → List D}

/-- what errors.errorType holds -/
def errTyD : List D := [.v (.iface 113 (.agg #[.pointer (some ⟨2, 44, none⟩)]))]

theorem as_spec (hgl : gl 1 = errTyD) (l : List D) :
    Tri Tryd.prog gl 54 [.cells [.d (.v (.pointer none))] 66] [.d (.ifc 66 (.cp l)), .ifc 92 (.blk 0 0)] fun out ob' => out = .ret (.d (.v (.bool true))) ∧ ob' = [.cells [.d (.cp l)] 66] := by
  intro g w vs hs hd
  have hr := rel_begin (n := 2) (by simp) hs hd
  obtain ⟨x, l1, rfl, ⟨y, rfl, eb, eo, rfl, hc⟩, z, l2, rfl, ⟨u, rfl, tb, htb, rfl⟩, rfl⟩ := hd
  obtain ⟨us, hh, ⟨p, l3, rfl, hp, rfl⟩, hmn⟩ := hs.obs 0 _ _ rfl htb
  have hp' : p = .pointer none := hp
  subst hp'
  have hg := hs.glob 1
  rw [hgl] at hg
  obtain ⟨⟨gx, hg1, hg2⟩, _⟩ := hg
  have hg3 : gx = .iface 113 (.agg #[.pointer (some ⟨2, 44, none⟩)]) := hg2
  subst hg3
  have hcell := (hs.sat _ _ _ hg1).1
  have hlt : tb < w.heap.size := (Array.getElem?_eq_some_iff.1 hh).1
  refine (as_hit ⟨eb, eo, none⟩ ⟨tb, 0, none⟩ (.pointer none) w hcell (by simp [World.cell?, hh]) (by simp [World.frozen?, hh])).mono ?_
  rintro e w' ⟨rfl, rfl⟩
  have hb : ∀ (W : World) (o : Obj), tb < W.heap.size → W.heap[tb]? = some (.cells #[.pointer none] 66 (0, 0)) → (W.alloc o).heap[tb]? = some (.cells #[.pointer none] 66 (0, 0)) ∧ tb < (W.alloc o).heap.size := fun W o h1 h2 => by
    refine ⟨?_, by simp; omega⟩
    rw [Below.heap_alloc W o tb h1]; exact h2
  obtain ⟨a1, b1⟩ := hb w (.cells #[.pointer (some ⟨tb, 0, none⟩)] 92) hlt hh
  obtain ⟨a2, b2⟩ := hb _ (.cells #[.pointer (some ⟨2, 92, none⟩), .pointer (some ⟨w.heap.size, 0, none⟩), .int .u64 150] 101) b1 a1
  obtain ⟨a3, b3⟩ := hb _ (.cells #[.pointer (some ⟨2, 92, none⟩), .pointer (some ⟨w.heap.size, 0, none⟩), .int .u64 150] 101) b2 a2
  obtain ⟨a4, b4⟩ := hb _ (.cells #[.pointer (some ⟨eb, eo, none⟩)] 66) b3 a3
  have hal := ((((Fr.refl (fun c => c = tb) w).alloc (.cells #[.pointer (some ⟨tb, 0, none⟩)] 92)).alloc (.cells #[.pointer (some ⟨2, 92, none⟩), .pointer (some ⟨w.heap.size, 0, none⟩), .int .u64 150] 101)).alloc (.cells #[.pointer (some ⟨2, 92, none⟩), .pointer (some ⟨w.heap.size, 0, none⟩), .int .u64 150] 101)).alloc (.cells #[.pointer (some ⟨eb, eo, none⟩)] 66)
  generalize hW : (((w.alloc (.cells #[.pointer (some ⟨tb, 0, none⟩)] 92)).alloc (.cells #[.pointer (some ⟨2, 92, none⟩), .pointer (some ⟨w.heap.size, 0, none⟩), .int .u64 150] 101)).alloc (.cells #[.pointer (some ⟨2, 92, none⟩), .pointer (some ⟨w.heap.size, 0, none⟩), .int .u64 150] 101)).alloc (.cells #[.pointer (some ⟨eb, eo, none⟩)] 66) = W at *
  have hset : (W.setCell ⟨tb, 0, none⟩ (.pointer (some ⟨eb, eo, none⟩))).heap[tb]? = some (.cells #[.pointer (some ⟨eb, eo, none⟩)] 66 (0, 0)) := by
    simp [World.setCell, Array.getElem?_modify, a4]
  have hfr : Fr (fun c => c = tb) w (W.setCell ⟨tb, 0, none⟩ (.pointer (some ⟨eb, eo, none⟩))) := by
    exact hal.trans ⟨rfl, rfl, rfl, by simp [World.setCell], fun c hc hn => Below.heap_setCell _ _ _ _ hn⟩
  have h1 := (hr.upd1 (i := 0) (o' := .cells [.d (.cp l)] 66) rfl htb rfl hfr ⟨_, hset, ⟨_, _, rfl, ⟨eb, eo, rfl, hc⟩, rfl⟩, hmn⟩ (.inl rfl) (fun j f dn cur h => by match j, h with | j + 1, h => simp at h) (fun k f dn cur h => by cases h) hmn).1
  exact ⟨g, _, h1.store, h1.stp, by simp, rfl, .d (.v (.bool true)), rfl, rfl, rfl⟩

theorem code_nil : TriD Tryd.prog gl 40 [.v .nilIface] (· = .tup [.v (.int .i64 0), .v (.int .i64 0)]) := by
  refine triD_of_runs Tryd.func40 rfl Tryd.ntmps40 (rs := [.tmp 2, .tmp 3]) rfl rfl rfl ?_
  refine runs_seq ?_
  refine runs_region ?_
  refine ops_fl rfl rfl rfl (fl_assign rfl rfl ?_)
  refine ops_fl rfl rfl rfl (fl_assign rfl rfl ?_)
  refine ops_nil ?_
  refine seq_normal ?_
  refine runs_seq ?_
  refine runs_seq ?_
  refine runs_region ?_
  refine ops_fl rfl rfl rfl (fl_move rfl rfl ?_)
  first
  | refine ops_fl rfl rfl rfl (fl_ieql_nil ii44 rfl rfl ?_)
  | refine ops_fl rfl rfl rfl (fl_ieql_d ii44 rfl rfl ?_)
  | refine ops_fl rfl rfl rfl (fl_ieql_s ii44 rfl rfl ?_)
  refine ops_nil ?_
  refine seq_normal ?_
  refine runs_cond rfl (fun h1 => ?_) (fun h1 => ?_)
  · try simp only [decide_eq_true_eq, decide_eq_false_iff_not, Bool.not_eq_true', Bool.not_eq_false', Bool.not_true, Bool.not_false, Int.not_lt, Int.not_le, Bool.and_eq_true, Bool.or_eq_true, Bool.and_eq_false_iff, Bool.or_eq_false_iff, Bool.false_eq_true, Bool.true_eq_false, not_true_eq_false, not_false_eq_true, decide_true, decide_false, true_and, and_true, false_and, and_false, true_or, or_true, false_or, or_false, Bool.true_and, Bool.false_and, Bool.and_true, Bool.and_false, Bool.true_or, Bool.false_or, Bool.or_true, Bool.or_false, Int.reduceEq, Int.reduceNe, Int.reduceLT, Int.reduceLE, Int.toNat_natCast, toNat_add1] at h1
    all_goals try (first | contradiction | (exfalso; omega))
    all_goals (
      refine runs_seq ?_
      refine runs_keep [] rfl ?_
      refine runs_region ?_
      refine ops_fl rfl rfl rfl (fl_assign rfl rfl ?_)
      refine ops_fl rfl rfl rfl (fl_assign rfl rfl ?_)
      refine ops_nil ?_
      refine seq_normal ?_
      refine runs_ret ?_
      refine seq_ret ?_
      refine fin_ret ?_
      refine fin_d2 rfl rfl rfl ?_
      rfl
    )
  · try simp only [decide_eq_true_eq, decide_eq_false_iff_not, Bool.not_eq_true', Bool.not_eq_false', Bool.not_true, Bool.not_false, Int.not_lt, Int.not_le, Bool.and_eq_true, Bool.or_eq_true, Bool.and_eq_false_iff, Bool.or_eq_false_iff, Bool.false_eq_true, Bool.true_eq_false, not_true_eq_false, not_false_eq_true, decide_true, decide_false, true_and, and_true, false_and, and_false, true_or, or_true, false_or, or_false, Bool.true_and, Bool.false_and, Bool.and_true, Bool.and_false, Bool.true_or, Bool.false_or, Bool.or_true, Bool.or_false, Int.reduceEq, Int.reduceNe, Int.reduceLT, Int.reduceLE, Int.toNat_natCast, toNat_add1] at h1
    all_goals (first | contradiction | (exfalso; omega) | (exfalso; simp_all))
theorem code_flt (hgl : gl 1 = errTyD) (c a : Int) : TriD Tryd.prog gl 40 [fltD c a] (· = .tup [.v (.int .i64 c), .v (.int .i64 a)]) := by
  unfold fltD
  refine triD_of_runs Tryd.func40 rfl Tryd.ntmps40 (rs := [.tmp 2, .tmp 3]) rfl rfl rfl ?_
  refine runs_seq ?_
  refine runs_region ?_
  refine ops_fl rfl rfl rfl (fl_assign rfl rfl ?_)
  refine ops_fl rfl rfl rfl (fl_assign rfl rfl ?_)
  refine ops_nil ?_
  refine seq_normal ?_
  refine runs_seq ?_
  refine runs_seq ?_
  refine runs_region ?_
  refine ops_fl rfl rfl rfl (fl_move rfl rfl ?_)
  first
  | refine ops_fl rfl rfl rfl (fl_ieql_nil ii44 rfl rfl ?_)
  | refine ops_fl rfl rfl rfl (fl_ieql_d ii44 rfl rfl ?_)
  | refine ops_fl rfl rfl rfl (fl_ieql_s ii44 rfl rfl ?_)
  refine ops_nil ?_
  refine seq_normal ?_
  refine runs_cond rfl (fun h1 => ?_) (fun h1 => ?_)
  · try simp only [decide_eq_true_eq, decide_eq_false_iff_not, Bool.not_eq_true', Bool.not_eq_false', Bool.not_true, Bool.not_false, Int.not_lt, Int.not_le, Bool.and_eq_true, Bool.or_eq_true, Bool.and_eq_false_iff, Bool.or_eq_false_iff, Bool.false_eq_true, Bool.true_eq_false, not_true_eq_false, not_false_eq_true, decide_true, decide_false, true_and, and_true, false_and, and_false, true_or, or_true, false_or, or_false, Bool.true_and, Bool.false_and, Bool.and_true, Bool.and_false, Bool.true_or, Bool.false_or, Bool.or_true, Bool.or_false, Int.reduceEq, Int.reduceNe, Int.reduceLT, Int.reduceLE, Int.toNat_natCast, toNat_add1] at h1
    all_goals (first | contradiction | (exfalso; omega) | (exfalso; simp_all))
  · try simp only [decide_eq_true_eq, decide_eq_false_iff_not, Bool.not_eq_true', Bool.not_eq_false', Bool.not_true, Bool.not_false, Int.not_lt, Int.not_le, Bool.and_eq_true, Bool.or_eq_true, Bool.and_eq_false_iff, Bool.or_eq_false_iff, Bool.false_eq_true, Bool.true_eq_false, not_true_eq_false, not_false_eq_true, decide_true, decide_false, true_and, and_true, false_and, and_false, true_or, or_true, false_or, or_false, Bool.true_and, Bool.false_and, Bool.and_true, Bool.and_false, Bool.true_or, Bool.false_or, Bool.or_true, Bool.or_false, Int.reduceEq, Int.reduceNe, Int.reduceLT, Int.reduceLE, Int.toNat_natCast, toNat_add1] at h1
    all_goals try (first | contradiction | (exfalso; omega))
    all_goals (
      refine runs_skip ?_
      refine seq_normal ?_
      refine runs_seq ?_
      refine runs_keep [0] rfl ?_
      refine runs_region ?_
      refine ops_cons (T := fun _ => False) rfl (op_alloc ti66 rfl rfl rfl rfl rfl (by simp only [List.length_cons, List.length_nil, Nat.reduceAdd]; rfl) rfl ?_)
      refine ops_nil ?_
      refine seq_normal ?_
      refine runs_seq ?_
      refine runs_seq ?_
      refine runs_region ?_
      refine ops_fl rfl rfl rfl (fl_move rfl rfl ?_)
      first
      | refine ops_fl rfl rfl rfl (fl_iface_d (by kernel_rfl) rfl rfl ?_)
      | refine ops_fl rfl rfl rfl (fl_iface (by kernel_rfl) rfl rfl ?_)
      refine ops_cons rfl (op_callo ca54 rfl rfl rfl rfl (as_spec hgl [.v (.int .i64 c), .v (.int .i64 a)]) [0] (.cons rfl (by first | exact .cells rfl (FitL.rfl _) | exact .row | exact .nrow | exact .mapI | exact .nnrow | (refine .cells rfl ?_; repeat (first | exact .nil | refine .cons (by first | exact .refl _ | exact .toD rfl | exact .nil rfl | exact .nilD) ?_))) .nil) rfl rfl rfl rfl (.cons (by first | exact .refl _ | exact .toD rfl | exact .nil rfl | exact .nilD | exact .dle rfl (by repeat' (first | exact DLe.refl _ | exact DLe.nil | exact DLeL.nil | exact DLeLL.nil | apply DLe.agg | apply DLe.tup | apply DLe.sl | apply DLe.cp | apply DLeL.cons | apply DLeLL.cons))) (.cons (by first | exact .refl _ | exact .toD rfl | exact .nil rfl | exact .nilD | exact .dle rfl (by repeat' (first | exact DLe.refl _ | exact DLe.nil | exact DLeL.nil | exact DLeLL.nil | apply DLe.agg | apply DLe.tup | apply DLe.sl | apply DLe.cp | apply DLeL.cons | apply DLeLL.cons))) .nil)) (fun s ob' hq => ?_) (fun s ob' hq => ?_))
      rotate_left
      · first | exact hq.elim | cases hq.1
      obtain ⟨hq1, rfl⟩ := hq
      cases hq1
      refine ⟨_, _, _, _, _, rfl, rfl, rfl, rfl, rfl, ?_⟩
      refine ops_fl rfl rfl rfl (fl_not rfl rfl ?_)
      refine ops_fl rfl rfl rfl (fl_move rfl rfl ?_)
      apply ops_or (yt := 13) (d := 11) 2 rfl rfl rfl (.none rfl) rfl rfl
      case h1 =>
        intro hb8 hK
        have hc := hb8; try simp only [decide_eq_true_eq, decide_eq_false_iff_not, Bool.not_eq_true', Bool.not_eq_false', Bool.not_true, Bool.not_false, Int.not_lt, Int.not_le, Bool.and_eq_true, Bool.or_eq_true, Bool.and_eq_false_iff, Bool.or_eq_false_iff, Bool.false_eq_true, Bool.true_eq_false, not_true_eq_false, not_false_eq_true, decide_true, decide_false, true_and, and_true, false_and, and_false, true_or, or_true, false_or, or_false, Bool.true_and, Bool.false_and, Bool.and_true, Bool.and_false, Bool.true_or, Bool.false_or, Bool.or_true, Bool.or_false, Int.reduceEq, Int.reduceNe, Int.reduceLT, Int.reduceLE, Int.toNat_natCast, toNat_add1] at hc
        all_goals try (first | contradiction | (exfalso; omega))
        all_goals (
          refine ops_gyes rfl rfl rfl hb8 ?_
          first
          | refine ops_fl rfl rfl rfl (fl_load_blk ti66 rfl rfl rfl rfl rfl rfl rfl ?_)
          | refine ops_fl rfl rfl rfl (fl_load_cp ti66 rfl rfl rfl rfl rfl rfl ?_)
          refine ops_gyes rfl rfl rfl hb8 ?_
          first
          | refine ops_fl rfl rfl rfl (fl_peql_nil up66 rfl rfl ?_)
          | refine ops_fl rfl rfl rfl (fl_peql_blk up66 rfl rfl ?_)
          | refine ops_fl rfl rfl rfl (fl_peql_cp up66 rfl rfl ?_)
          exact hK [_, _] rfl rfl)
      case h2 =>
        intro hb8 hK
        refine ops_gno rfl rfl rfl hb8 rfl rfl ?_
        refine ops_gno rfl rfl rfl hb8 rfl rfl ?_
        exact hK [_, _] rfl
      refine ops_nil ?_
      refine seq_normal ?_
      refine runs_cond rfl (fun h4 => ?_) (fun h4 => ?_)
      · try simp only [decide_eq_true_eq, decide_eq_false_iff_not, Bool.not_eq_true', Bool.not_eq_false', Bool.not_true, Bool.not_false, Int.not_lt, Int.not_le, Bool.and_eq_true, Bool.or_eq_true, Bool.and_eq_false_iff, Bool.or_eq_false_iff, Bool.false_eq_true, Bool.true_eq_false, not_true_eq_false, not_false_eq_true, decide_true, decide_false, true_and, and_true, false_and, and_false, true_or, or_true, false_or, or_false, Bool.true_and, Bool.false_and, Bool.and_true, Bool.and_false, Bool.true_or, Bool.false_or, Bool.or_true, Bool.or_false, Int.reduceEq, Int.reduceNe, Int.reduceLT, Int.reduceLE, Int.toNat_natCast, toNat_add1] at h4
        all_goals (first | contradiction | (exfalso; omega) | (exfalso; simp_all))
      · try simp only [decide_eq_true_eq, decide_eq_false_iff_not, Bool.not_eq_true', Bool.not_eq_false', Bool.not_true, Bool.not_false, Int.not_lt, Int.not_le, Bool.and_eq_true, Bool.or_eq_true, Bool.and_eq_false_iff, Bool.or_eq_false_iff, Bool.false_eq_true, Bool.true_eq_false, not_true_eq_false, not_false_eq_true, decide_true, decide_false, true_and, and_true, false_and, and_false, true_or, or_true, false_or, or_false, Bool.true_and, Bool.false_and, Bool.and_true, Bool.and_false, Bool.true_or, Bool.false_or, Bool.or_true, Bool.or_false, Int.reduceEq, Int.reduceNe, Int.reduceLT, Int.reduceLE, Int.toNat_natCast, toNat_add1] at h4
        all_goals try (first | contradiction | (exfalso; omega))
        all_goals (
          refine runs_skip ?_
          refine seq_normal ?_
          refine runs_seq ?_
          refine runs_keep [4] rfl ?_
          refine any_start mixed rfl rfl ?_
          first
          | refine any_fl 0 rfl rfl rfl rfl (by kernel_rfl) rfl (fl_load_blk ti66 rfl rfl rfl rfl rfl rfl rfl ⟨_, rfl, ?_⟩)
          | refine any_fl 0 rfl rfl rfl rfl (by kernel_rfl) rfl (fl_load_cp ti66 rfl rfl rfl rfl rfl rfl ⟨_, rfl, ?_⟩)
          first
          | refine any_fl 1 rfl rfl rfl rfl (by kernel_rfl) rfl (fl_nil_blk rfl rfl ⟨_, rfl, ?_⟩)
          | refine any_fl 1 rfl rfl rfl rfl (by kernel_rfl) rfl (fl_nil_cp rfl rfl ⟨_, rfl, ?_⟩)
          first
          | refine any_fl 2 rfl rfl rfl rfl (by kernel_rfl) rfl (fl_field_blk ti33 rfl rfl rfl rfl ⟨_, rfl, ?_⟩)
          | refine any_fl 2 rfl rfl rfl rfl (by kernel_rfl) rfl (fl_field_cp ti33 rfl rfl rfl rfl rfl ⟨_, rfl, ?_⟩)
          first
          | refine any_fl 3 rfl rfl rfl rfl (by kernel_rfl) rfl (fl_load_blk ti3 rfl rfl rfl rfl rfl rfl rfl ⟨_, rfl, ?_⟩)
          | refine any_fl 3 rfl rfl rfl rfl (by kernel_rfl) rfl (fl_load_cp ti3 rfl rfl rfl rfl rfl rfl ⟨_, rfl, ?_⟩)
          first
          | refine any_fl 4 rfl rfl rfl rfl (by kernel_rfl) rfl (fl_load_blk ti66 rfl rfl rfl rfl rfl rfl rfl ⟨_, rfl, ?_⟩)
          | refine any_fl 4 rfl rfl rfl rfl (by kernel_rfl) rfl (fl_load_cp ti66 rfl rfl rfl rfl rfl rfl ⟨_, rfl, ?_⟩)
          first
          | refine any_fl 5 rfl rfl rfl rfl (by kernel_rfl) rfl (fl_nil_blk rfl rfl ⟨_, rfl, ?_⟩)
          | refine any_fl 5 rfl rfl rfl rfl (by kernel_rfl) rfl (fl_nil_cp rfl rfl ⟨_, rfl, ?_⟩)
          first
          | refine any_fl 6 rfl rfl rfl rfl (by kernel_rfl) rfl (fl_field_blk ti33 rfl rfl rfl rfl ⟨_, rfl, ?_⟩)
          | refine any_fl 6 rfl rfl rfl rfl (by kernel_rfl) rfl (fl_field_cp ti33 rfl rfl rfl rfl rfl ⟨_, rfl, ?_⟩)
          first
          | refine any_fl 7 rfl rfl rfl rfl (by kernel_rfl) rfl (fl_load_blk ti3 rfl rfl rfl rfl rfl rfl rfl ⟨_, rfl, ?_⟩)
          | refine any_fl 7 rfl rfl rfl rfl (by kernel_rfl) rfl (fl_load_cp ti3 rfl rfl rfl rfl rfl rfl ⟨_, rfl, ?_⟩)
          refine any_fl 8 rfl rfl rfl rfl (by kernel_rfl) rfl (fl_assign rfl rfl ⟨_, rfl, ?_⟩)
          refine any_fl 9 rfl rfl rfl rfl (by kernel_rfl) rfl (fl_assign rfl rfl ⟨_, rfl, ?_⟩)
          refine any_end (by kernel_rfl) ?_
          refine seq_normal ?_
          refine runs_ret ?_
          refine fin_ret ?_
          refine fin_d2 rfl rfl rfl ?_
          rfl
        )
    )
theorem faulty_spec (hgl : gl 1 = errTyD) (c a : Int) : TriD Tryd.prog gl 24 [errD c a, .agg [.v (.int .i64 c), .v (.int .i64 a)]] (· = .v (.bool true)) := by
  by_cases hc : c = 0
  · subst hc
    rw [errD_zero]
    refine triD_of_runs Tryd.func24 rfl Tryd.ntmps24 (rs := [.tmp 4]) rfl rfl rfl ?_
    refine runs_seq ?_
    refine runs_region ?_
    refine ops_cons (T := fun _ => False) rfl (op_box ti33 rfl rfl rfl rfl rfl (by simp only [List.length_cons, List.length_nil, Nat.reduceAdd]; rfl) rfl ?_)
    refine ops_fl rfl rfl rfl (fl_assign rfl rfl ?_)
    refine ops_nil ?_
    refine seq_normal ?_
    refine runs_seq ?_
    refine runs_region ?_
    refine ops_fl rfl rfl rfl (fl_move rfl rfl ?_)
    refine ops_cons (T := fun _ => False) rfl (op_call ca40 rfl rfl rfl rfl (code_nil) (.cons (by first | exact .refl _ | exact .toD rfl | exact .nilD | exact .dle rfl (by repeat' (first | exact DLe.refl _ | exact DLe.nil | exact DLeL.nil | exact DLeLL.nil | apply DLe.agg | apply DLe.tup | apply DLe.sl | apply DLe.cp | apply DLeL.cons | apply DLeLL.cons))) .nil) (fun d hd => ?_))
    obtain rfl := hd
    refine ops_fl rfl rfl rfl (fl_move rfl rfl ?_)
    first
    | refine ops_fl rfl rfl rfl (fl_extract rfl rfl rfl ?_)
    | refine ops_fl rfl rfl rfl (fl_extract_d rfl rfl rfl ?_)
    first
    | refine ops_fl rfl rfl rfl (fl_extract rfl rfl rfl ?_)
    | refine ops_fl rfl rfl rfl (fl_extract_d rfl rfl rfl ?_)
    refine ops_fl rfl rfl rfl (fl_assign rfl rfl ?_)
    refine ops_fl rfl rfl rfl (fl_assign rfl rfl ?_)
    refine ops_nil ?_
    refine seq_normal ?_
    refine runs_seq ?_
    refine runs_keep [6, 5, 3] rfl ?_
    refine runs_region ?_
    refine ops_fl rfl rfl rfl (fl_move rfl rfl ?_)
    first
    | refine ops_fl rfl rfl rfl (fl_field_blk ti33 rfl rfl rfl rfl ?_)
    | refine ops_fl rfl rfl rfl (fl_field_cp ti33 rfl rfl rfl rfl rfl ?_)
    first
    | refine ops_fl rfl rfl rfl (fl_load_blk ti3 rfl rfl rfl rfl rfl rfl rfl ?_)
    | refine ops_fl rfl rfl rfl (fl_load_cp ti3 rfl rfl rfl rfl rfl rfl ?_)
    refine ops_fl rfl rfl rfl (fl_eql rfl rfl rfl ?_)
    refine ops_fl rfl rfl rfl (fl_move rfl rfl ?_)
    refine ops_set 16 true rfl (by simp) ?_
    refine ops_gyes rfl rfl rfl rfl ?_
    refine ops_fl rfl rfl rfl (fl_move rfl rfl ?_)
    refine ops_gyes rfl rfl rfl rfl ?_
    refine ops_fl rfl rfl rfl (fl_eql rfl rfl rfl ?_)
    refine ops_gyes rfl rfl rfl rfl ?_
    refine ops_fl rfl rfl rfl (fl_move rfl rfl ?_)
    refine ops_set 19 true rfl (by simp) ?_
    refine ops_gno rfl rfl rfl rfl rfl rfl ?_
    refine ops_gno rfl rfl rfl rfl rfl rfl ?_
    refine ops_gno rfl rfl rfl rfl rfl rfl ?_
    refine ops_gno rfl rfl rfl rfl rfl rfl ?_
    refine ops_gyes rfl rfl rfl rfl ?_
    first
    | refine ops_fl rfl rfl rfl (fl_pick_t rfl rfl rfl ?_)
    | refine ops_fl rfl rfl rfl (fl_pick_f rfl rfl rfl ?_)
    | refine ops_fl rfl rfl rfl (fl_pick_b rfl rfl rfl rfl ?_)
    first
    | refine ops_fl rfl rfl rfl (fl_pick_t rfl rfl rfl ?_)
    | refine ops_fl rfl rfl rfl (fl_pick_f rfl rfl rfl ?_)
    | refine ops_fl rfl rfl rfl (fl_pick_b rfl rfl rfl rfl ?_)
    refine ops_fl rfl rfl rfl (fl_assign rfl rfl ?_)
    refine ops_nil ?_
    refine seq_normal ?_
    refine runs_ret ?_
    refine fin_ret ?_
    refine fin_d1 rfl rfl ?_
    rfl
  · rw [errD_ne hc]
    have hcf := code_flt (gl := gl) hgl c a
    generalize fltD c a = fd at hcf ⊢
    refine triD_of_runs Tryd.func24 rfl Tryd.ntmps24 (rs := [.tmp 4]) rfl rfl rfl ?_
    refine runs_seq ?_
    refine runs_region ?_
    refine ops_cons (T := fun _ => False) rfl (op_box ti33 rfl rfl rfl rfl rfl (by simp only [List.length_cons, List.length_nil, Nat.reduceAdd]; rfl) rfl ?_)
    refine ops_fl rfl rfl rfl (fl_assign rfl rfl ?_)
    refine ops_nil ?_
    refine seq_normal ?_
    refine runs_seq ?_
    refine runs_region ?_
    refine ops_fl rfl rfl rfl (fl_move rfl rfl ?_)
    refine ops_cons (T := fun _ => False) rfl (op_call ca40 rfl rfl rfl rfl (hcf) (.cons (by first | exact .refl _ | exact .toD rfl | exact .nilD | exact .dle rfl (by repeat' (first | exact DLe.refl _ | exact DLe.nil | exact DLeL.nil | exact DLeLL.nil | apply DLe.agg | apply DLe.tup | apply DLe.sl | apply DLe.cp | apply DLeL.cons | apply DLeLL.cons))) .nil) (fun d hd => ?_))
    obtain rfl := hd
    refine ops_fl rfl rfl rfl (fl_move rfl rfl ?_)
    first
    | refine ops_fl rfl rfl rfl (fl_extract rfl rfl rfl ?_)
    | refine ops_fl rfl rfl rfl (fl_extract_d rfl rfl rfl ?_)
    first
    | refine ops_fl rfl rfl rfl (fl_extract rfl rfl rfl ?_)
    | refine ops_fl rfl rfl rfl (fl_extract_d rfl rfl rfl ?_)
    refine ops_fl rfl rfl rfl (fl_assign rfl rfl ?_)
    refine ops_fl rfl rfl rfl (fl_assign rfl rfl ?_)
    refine ops_nil ?_
    refine seq_normal ?_
    refine runs_seq ?_
    refine runs_keep [6, 5, 3] rfl ?_
    refine runs_region ?_
    refine ops_fl rfl rfl rfl (fl_move rfl rfl ?_)
    first
    | refine ops_fl rfl rfl rfl (fl_field_blk ti33 rfl rfl rfl rfl ?_)
    | refine ops_fl rfl rfl rfl (fl_field_cp ti33 rfl rfl rfl rfl rfl ?_)
    first
    | refine ops_fl rfl rfl rfl (fl_load_blk ti3 rfl rfl rfl rfl rfl rfl rfl ?_)
    | refine ops_fl rfl rfl rfl (fl_load_cp ti3 rfl rfl rfl rfl rfl rfl ?_)
    refine ops_fl rfl rfl rfl (fl_eql rfl rfl rfl ?_)
    refine ops_fl rfl rfl rfl (fl_move rfl rfl ?_)
    refine ops_set 16 true rfl (by simp) ?_
    refine ops_gyes rfl rfl rfl rfl ?_
    refine ops_fl rfl rfl rfl (fl_move rfl rfl ?_)
    refine ops_gyes rfl rfl rfl rfl ?_
    refine ops_fl rfl rfl rfl (fl_eql rfl rfl rfl ?_)
    refine ops_gyes rfl rfl rfl rfl ?_
    refine ops_fl rfl rfl rfl (fl_move rfl rfl ?_)
    refine ops_set 19 false rfl (by simpa using hc) ?_
    refine ops_gyes rfl rfl rfl rfl ?_
    refine ops_fl rfl rfl rfl (fl_move rfl rfl ?_)
    refine ops_gyes rfl rfl rfl rfl ?_
    first
    | refine ops_fl rfl rfl rfl (fl_field_blk ti33 rfl rfl rfl rfl ?_)
    | refine ops_fl rfl rfl rfl (fl_field_cp ti33 rfl rfl rfl rfl rfl ?_)
    refine ops_gyes rfl rfl rfl rfl ?_
    first
    | refine ops_fl rfl rfl rfl (fl_load_blk ti3 rfl rfl rfl rfl rfl rfl rfl ?_)
    | refine ops_fl rfl rfl rfl (fl_load_cp ti3 rfl rfl rfl rfl rfl rfl ?_)
    refine ops_gyes rfl rfl rfl rfl ?_
    refine ops_fl rfl rfl rfl (fl_eql rfl rfl rfl ?_)
    refine ops_gyes rfl rfl rfl rfl ?_
    first
    | refine ops_fl rfl rfl rfl (fl_pick_t rfl rfl rfl ?_)
    | refine ops_fl rfl rfl rfl (fl_pick_f rfl rfl rfl ?_)
    | refine ops_fl rfl rfl rfl (fl_pick_b rfl rfl rfl rfl ?_)
    first
    | refine ops_fl rfl rfl rfl (fl_pick_t rfl rfl rfl ?_)
    | refine ops_fl rfl rfl rfl (fl_pick_f rfl rfl rfl ?_)
    | refine ops_fl rfl rfl rfl (fl_pick_b rfl rfl rfl rfl ?_)
    refine ops_fl rfl rfl rfl (fl_assign rfl rfl ?_)
    refine ops_nil ?_
    refine seq_normal ?_
    refine runs_ret ?_
    refine fin_ret ?_
    refine fin_d1 rfl rfl ?_
    simp

theorem levelParsed_spec (hgl : gl 1 = errTyD) (s : ByteArray) : TriD Tryd.prog gl 7 [.v (.string s)] (· = .v (.bool true)) := by
  obtain ⟨x, hx, fx, wx⟩ := parseR_lev s
  have h1 := lparse_spec (gl := gl) s
  have h2 := parseLevel_spec (gl := gl) s
  have h3 := faulty_spec (gl := gl) hgl (parseR s).2.1 (parseR s).2.2
  generalize errD (parseR s).2.1 (parseR s).2.2 = ed at h1 h3
  generalize (parseR s).2.1 = c at h1 h2 h3
  generalize (parseR s).2.2 = a at h1 h2 h3
  have sx := x.size_toLvl
  have wsx := x.size_le_weight
  have hsame := same_refl x.toLvl
  rw [hx] at h1 h2
  obtain ⟨ka, na, aa, ea⟩ := Lvl.case x.toLvl
  rw [ea] at h1 h2 hsame sx
  refine triD_of_runs Tryd.func7 rfl Tryd.ntmps7 (rs := [.tmp 2]) rfl rfl rfl ?_
  refine runs_seq ?_
  refine runs_region ?_
  refine ops_fl rfl rfl rfl (fl_assign rfl rfl ?_)
  refine ops_nil ?_
  refine seq_normal ?_
  refine runs_seq ?_
  refine runs_region ?_
  refine ops_fl rfl rfl rfl (fl_move rfl rfl ?_)
  refine ops_cons (T := fun _ => False) rfl (op_call ca16 rfl rfl rfl rfl (h1) (.cons (by first | exact .refl _ | exact .toD rfl | exact .nilD | exact .dle rfl (by repeat' (first | exact DLe.refl _ | exact DLe.nil | exact DLeL.nil | exact DLeLL.nil | apply DLe.agg | apply DLe.tup | apply DLe.sl | apply DLe.cp | apply DLeL.cons | apply DLeLL.cons))) .nil) (fun d hd => ?_))
  obtain rfl := hd
  refine ops_fl rfl rfl rfl (fl_move rfl rfl ?_)
  first
  | refine ops_fl rfl rfl rfl (fl_extract rfl rfl rfl ?_)
  | refine ops_fl rfl rfl rfl (fl_extract_d rfl rfl rfl ?_)
  first
  | refine ops_fl rfl rfl rfl (fl_extract rfl rfl rfl ?_)
  | refine ops_fl rfl rfl rfl (fl_extract_d rfl rfl rfl ?_)
  refine ops_cons (T := fun _ => False) rfl (op_alloc ti31 rfl rfl rfl rfl rfl (by simp only [List.length_cons, List.length_nil, Nat.reduceAdd]; rfl) rfl ?_)
  refine ops_cons rfl (op_store ti31 rfl rfl rfl rfl rfl rfl rfl rfl rfl rfl rfl ?_)
  refine ops_fl rfl rfl rfl (fl_assign rfl rfl ?_)
  refine ops_nil ?_
  refine seq_normal ?_
  refine runs_seq ?_
  refine runs_keep [4, 3, 0] rfl ?_
  refine runs_region ?_
  refine ops_fl rfl rfl rfl (fl_move rfl rfl ?_)
  refine ops_cons (T := fun _ => False) rfl (op_call ca9 rfl rfl rfl rfl (h2) (.cons (by first | exact .refl _ | exact .toD rfl | exact .nilD | exact .dle rfl (by repeat' (first | exact DLe.refl _ | exact DLe.nil | exact DLeL.nil | exact DLeLL.nil | apply DLe.agg | apply DLe.tup | apply DLe.sl | apply DLe.cp | apply DLeL.cons | apply DLeLL.cons))) .nil) (fun d hd => ?_))
  obtain rfl := hd
  refine ops_fl rfl rfl rfl (fl_move rfl rfl ?_)
  first
  | refine ops_fl rfl rfl rfl (fl_extract rfl rfl rfl ?_)
  | refine ops_fl rfl rfl rfl (fl_extract_d rfl rfl rfl ?_)
  first
  | refine ops_fl rfl rfl rfl (fl_extract rfl rfl rfl ?_)
  | refine ops_fl rfl rfl rfl (fl_extract_d rfl rfl rfl ?_)
  refine ops_cons (T := fun _ => False) rfl (op_alloc ti31 rfl rfl rfl rfl rfl (by simp only [List.length_cons, List.length_nil, Nat.reduceAdd]; rfl) rfl ?_)
  refine ops_cons (T := fun _ => False) rfl (op_alloc ti33 rfl rfl rfl rfl rfl (by simp only [List.length_cons, List.length_nil, Nat.reduceAdd]; rfl) rfl ?_)
  refine ops_cons rfl (op_store ti31 rfl rfl rfl rfl rfl rfl rfl rfl rfl rfl rfl ?_)
  refine ops_cons rfl (op_store ti33 rfl rfl rfl rfl rfl rfl rfl rfl rfl rfl rfl ?_)
  refine ops_nil ?_
  refine seq_normal ?_
  refine runs_seq ?_
  refine runs_keep [6, 5, 4, 3] rfl ?_
  refine runs_region ?_
  refine ops_fl rfl rfl rfl (fl_move rfl rfl ?_)
  first
  | refine ops_fl rfl rfl rfl (fl_load_blk ti33 rfl rfl rfl rfl rfl rfl rfl ?_)
  | refine ops_fl rfl rfl rfl (fl_load_cp ti33 rfl rfl rfl rfl rfl rfl ?_)
  | refine ops_fl rfl rfl rfl (fl_load_all ti33 rfl rfl rfl rfl (by first | rfl | exact Lvl.cells_len _) ?_)
  refine ops_cons (T := fun _ => False) rfl (op_call ca24 rfl rfl rfl rfl (h3) (.cons (by first | exact .refl _ | exact .toD rfl | exact .nilD | exact .dle rfl (by repeat' (first | exact DLe.refl _ | exact DLe.nil | exact DLeL.nil | exact DLeLL.nil | apply DLe.agg | apply DLe.tup | apply DLe.sl | apply DLe.cp | apply DLeL.cons | apply DLeLL.cons))) (.cons (by first | exact .refl _ | exact .toD rfl | exact .nilD | exact .dle rfl (by repeat' (first | exact DLe.refl _ | exact DLe.nil | exact DLeL.nil | exact DLeLL.nil | apply DLe.agg | apply DLe.tup | apply DLe.sl | apply DLe.cp | apply DLeL.cons | apply DLeLL.cons))) .nil)) (fun d hd => ?_))
  obtain rfl := hd
  refine ops_fl rfl rfl rfl (fl_assign rfl rfl ?_)
  refine ops_nil ?_
  refine seq_normal ?_
  refine runs_seq ?_
  refine runs_keep [7, 5, 3] rfl ?_
  refine runs_region ?_
  first
  | refine ops_fl rfl rfl rfl (fl_load_blk ti31 rfl rfl rfl rfl rfl rfl rfl ?_)
  | refine ops_fl rfl rfl rfl (fl_load_cp ti31 rfl rfl rfl rfl rfl rfl ?_)
  | refine ops_fl rfl rfl rfl (fl_load_all ti31 rfl rfl rfl rfl (by first | rfl | exact Lvl.cells_len _) ?_)
  first
  | refine ops_fl rfl rfl rfl (fl_load_blk ti31 rfl rfl rfl rfl rfl rfl rfl ?_)
  | refine ops_fl rfl rfl rfl (fl_load_cp ti31 rfl rfl rfl rfl rfl rfl ?_)
  | refine ops_fl rfl rfl rfl (fl_load_all ti31 rfl rfl rfl rfl (by first | rfl | exact Lvl.cells_len _) ?_)
  refine ops_cons (T := fun _ => False) rfl (op_call ca22 rfl rfl rfl rfl (sameLvl_spec _ ka na aa ka na aa (Nat.le_refl _) (by omega)) (.cons (by first | exact .refl _ | exact .toD rfl | exact .nilD | exact .dle rfl (by repeat' (first | exact DLe.refl _ | exact DLe.nil | exact DLeL.nil | exact DLeLL.nil | apply DLe.agg | apply DLe.tup | apply DLe.sl | apply DLe.cp | apply DLeL.cons | apply DLeLL.cons))) (.cons (by first | exact .refl _ | exact .toD rfl | exact .nilD | exact .dle rfl (by repeat' (first | exact DLe.refl _ | exact DLe.nil | exact DLeL.nil | exact DLeLL.nil | apply DLe.agg | apply DLe.tup | apply DLe.sl | apply DLe.cp | apply DLeL.cons | apply DLeLL.cons))) .nil)) (fun d hd => ?_))
  rw [hsame] at hd; obtain rfl := hd
  refine ops_fl rfl rfl rfl (fl_assign rfl rfl ?_)
  refine ops_nil ?_
  refine seq_normal ?_
  refine runs_seq ?_
  refine runs_keep [8, 7] rfl ?_
  refine runs_region ?_
  refine ops_fl rfl rfl rfl (fl_move rfl rfl ?_)
  refine ops_fl rfl rfl rfl (fl_move rfl rfl ?_)
  apply ops_and (yt := 27) (d := 26) 1 rfl rfl rfl (.none rfl) rfl rfl
  case h1 =>
    intro hb3 hK
    have hc := hb3; try simp only [decide_eq_true_eq, decide_eq_false_iff_not, Bool.not_eq_true', Bool.not_eq_false', Bool.not_true, Bool.not_false, Int.not_lt, Int.not_le, Bool.and_eq_true, Bool.or_eq_true, Bool.and_eq_false_iff, Bool.or_eq_false_iff, Bool.false_eq_true, Bool.true_eq_false, not_true_eq_false, not_false_eq_true, decide_true, decide_false, true_and, and_true, false_and, and_false, true_or, or_true, false_or, or_false, Bool.true_and, Bool.false_and, Bool.and_true, Bool.and_false, Bool.true_or, Bool.false_or, Bool.or_true, Bool.or_false, Int.reduceEq, Int.reduceNe, Int.reduceLT, Int.reduceLE, Int.toNat_natCast, toNat_add1] at hc
    all_goals try (first | contradiction | (exfalso; omega))
    all_goals (
      refine ops_gyes rfl rfl rfl hb3 ?_
      refine ops_fl rfl rfl rfl (fl_move rfl rfl ?_)
      exact hK [_] rfl rfl)
  case h2 =>
    intro hb3 hK
    refine ops_gno rfl rfl rfl hb3 rfl rfl ?_
    exact hK [_] rfl
  refine ops_fl rfl rfl rfl (fl_assign rfl rfl ?_)
  refine ops_nil ?_
  refine seq_normal ?_
  refine runs_ret ?_
  refine fin_ret ?_
  refine fin_d1 rfl rfl ?_
  rfl

theorem parses_spec (hgl : gl 1 = errTyD) (l : List Step) : TriD Tryd.prog gl 4 [.sl 6 (steps l)] (· = .v (.bool true)) := by
  have hlen := steps_len l
  refine triD_of_runs Tryd.func4 rfl Tryd.ntmps4 (rs := [.tmp 2]) rfl rfl rfl ?_
  refine runs_seq ?_
  refine runs_region ?_
  refine ops_fl rfl rfl rfl (fl_assign rfl rfl ?_)
  refine ops_nil ?_
  refine seq_normal ?_
  refine runs_seq ?_
  refine runs_seq ?_
  refine runs_region ?_
  refine ops_fl rfl rfl rfl (fl_assign rfl rfl ?_)
  refine ops_nil ?_
  refine seq_normal ?_
  refine runs_block ?_
  refine runs_keep [3, 0] rfl ?_
  apply runs_loop_c (ι := Nat) (fun i => [(3, int i)]) [0] (fun i => i ≤ l.length ∧ i ≤ 1152921504606846976) (fun i => l.length - i) (0)
  case hk => exact rfl
  case hI =>
    exact ⟨Nat.zero_le _, by omega⟩
  case hm =>
    refine meets_of rfl rfl rfl ?_ (.cons rfl (by first | exact .refl _ | exact .toD rfl | exact .nilD | exact Fit.of_eq rfl | exact .dle rfl (by repeat' (first | exact DLe.refl _ | exact DLe.nil | exact DLeL.nil | exact DLeLL.nil | apply DLe.agg | apply DLe.tup | apply DLe.sl | apply DLe.cp | apply DLeL.cons | apply DLeLL.cons))) (.cons rfl (by first | exact .refl _ | exact .toD rfl | exact .nilD | exact Fit.of_eq rfl | exact .dle rfl (by repeat' (first | exact DLe.refl _ | exact DLe.nil | exact DLeL.nil | exact DLeLL.nil | apply DLe.agg | apply DLe.tup | apply DLe.sl | apply DLe.cp | apply DLeL.cons | apply DLeLL.cons))) .nil))
    repeat (first | exact .nil | refine .cons rfl (.cells rfl (FitL.rfl _)) ?_ | refine .cons rfl (.cells rfl (by repeat (first | exact .nil | refine .cons (by first | exact .refl _ | exact .toD rfl | exact .nil rfl | exact .nilD | exact Fit.of_eq rfl) ?_))) ?_ | refine .cons rfl .row ?_ | refine .cons rfl .mapI ?_ | refine .cons rfl .nnrow ?_ | refine .cons rfl .nrow ?_ | refine .cons rfl .dead ?_)
  case h =>
    rintro i hinv
    try dsimp only at hinv
    refine runs_keep [3, 0] rfl ?_
    refine runs_seq ?_
    refine runs_seq ?_
    refine runs_region ?_
    refine ops_fl rfl rfl rfl (fl_move rfl rfl ?_)
    refine ops_fl rfl rfl rfl (fl_move rfl rfl ?_)
    first
    | refine ops_fl rfl rfl rfl (fl_len us22 rfl rfl ?_)
    | refine ops_fl rfl rfl rfl (fl_len_own us22 rfl rfl ?_)
    | refine ops_fl rfl rfl rfl (fl_len_nil us22 rfl rfl ?_)
    refine ops_fl rfl rfl rfl (fl_lss rfl rfl rfl ?_)
    refine ops_fl rfl rfl rfl (fl_move rfl rfl ?_)
    apply ops_and (yt := 12) (d := 10) 2 rfl rfl rfl (.none rfl) rfl rfl
    case h1 =>
      intro hb9 hK
      have hc := hb9; try simp only [decide_eq_true_eq, decide_eq_false_iff_not, Bool.not_eq_true', Bool.not_eq_false', Bool.not_true, Bool.not_false, Int.not_lt, Int.not_le, Bool.and_eq_true, Bool.or_eq_true, Bool.and_eq_false_iff, Bool.or_eq_false_iff, Bool.false_eq_true, Bool.true_eq_false, not_true_eq_false, not_false_eq_true, decide_true, decide_false, true_and, and_true, false_and, and_false, true_or, or_true, false_or, or_false, Bool.true_and, Bool.false_and, Bool.and_true, Bool.and_false, Bool.true_or, Bool.false_or, Bool.or_true, Bool.or_false, Int.reduceEq, Int.reduceNe, Int.reduceLT, Int.reduceLE, Int.toNat_natCast, toNat_add1] at hc
      all_goals try (first | contradiction | (exfalso; omega))
      all_goals (
        refine ops_gyes rfl rfl rfl hb9 ?_
        refine ops_fl rfl rfl rfl (fl_move rfl rfl ?_)
        refine ops_gyes rfl rfl rfl hb9 ?_
        refine ops_fl rfl rfl rfl (fl_lss rfl rfl rfl ?_)
        exact hK [_, _] rfl rfl)
    case h2 =>
      intro hb9 hK
      refine ops_gno rfl rfl rfl hb9 rfl rfl ?_
      refine ops_gno rfl rfl rfl hb9 rfl rfl ?_
      exact hK [_, _] rfl
    refine ops_nil ?_
    refine seq_normal ?_
    refine runs_cond rfl (fun h2 => ?_) (fun h2 => ?_)
    · try simp only [decide_eq_true_eq, decide_eq_false_iff_not, Bool.not_eq_true', Bool.not_eq_false', Bool.not_true, Bool.not_false, Int.not_lt, Int.not_le, Bool.and_eq_true, Bool.or_eq_true, Bool.and_eq_false_iff, Bool.or_eq_false_iff, Bool.false_eq_true, Bool.true_eq_false, not_true_eq_false, not_false_eq_true, decide_true, decide_false, true_and, and_true, false_and, and_false, true_or, or_true, false_or, or_false, Bool.true_and, Bool.false_and, Bool.and_true, Bool.and_false, Bool.true_or, Bool.false_or, Bool.or_true, Bool.or_false, Int.reduceEq, Int.reduceNe, Int.reduceLT, Int.reduceLE, Int.toNat_natCast, toNat_add1] at h2
      all_goals try (first | contradiction | (exfalso; omega))
      all_goals (
        refine runs_skip ?_
        refine seq_normal ?_
        refine runs_seq ?_
        refine runs_block ?_
        refine runs_seq ?_
        refine runs_keep [3, 0] rfl ?_
        have hin : i < l.length := by omega
        refine runs_region ?_
        refine ops_fl rfl rfl rfl (fl_move rfl rfl ?_)
        refine ops_fl rfl rfl rfl (fl_move rfl rfl ?_)
        first
        | refine ops_fl rfl rfl rfl (fl_index us22 te22 rfl rfl rfl rfl rfl (by omega) (step_at hin) ?_)
        | refine ops_fl rfl rfl rfl (fl_index_own us22 te22 rfl rfl rfl rfl rfl (by omega) (step_at hin) ?_)
        first
        | refine ops_fl rfl rfl rfl (fl_field_blk ti25 rfl rfl rfl rfl ?_)
        | refine ops_fl rfl rfl rfl (fl_field_cp ti25 rfl rfl rfl rfl rfl ?_)
        first
        | refine ops_fl rfl rfl rfl (fl_load_blk ti9 rfl rfl rfl rfl rfl rfl rfl ?_)
        | refine ops_fl rfl rfl rfl (fl_load_cp ti9 rfl rfl rfl rfl rfl rfl ?_)
        refine ops_cons (T := fun _ => False) rfl (op_call ca7 rfl rfl rfl rfl (levelParsed_spec hgl l[i].s) (.cons (by first | exact .refl _ | exact .toD rfl | exact .nilD | exact .dle rfl (by repeat' (first | exact DLe.refl _ | exact DLe.nil | exact DLeL.nil | exact DLeLL.nil | apply DLe.agg | apply DLe.tup | apply DLe.sl | apply DLe.cp | apply DLeL.cons | apply DLeLL.cons))) .nil) (fun d hd => ?_))
        obtain rfl := hd
        refine ops_fl rfl rfl rfl (fl_assign rfl rfl ?_)
        refine ops_nil ?_
        refine seq_normal ?_
        refine runs_seq ?_
        refine runs_keep [4, 3, 0] rfl ?_
        refine runs_region ?_
        refine ops_fl rfl rfl rfl (fl_move rfl rfl ?_)
        refine ops_fl rfl rfl rfl (fl_move rfl rfl ?_)
        first
        | refine ops_fl rfl rfl rfl (fl_index us22 te22 rfl rfl rfl rfl rfl (by omega) (step_at hin) ?_)
        | refine ops_fl rfl rfl rfl (fl_index_own us22 te22 rfl rfl rfl rfl rfl (by omega) (step_at hin) ?_)
        first
        | refine ops_fl rfl rfl rfl (fl_field_blk ti25 rfl rfl rfl rfl ?_)
        | refine ops_fl rfl rfl rfl (fl_field_cp ti25 rfl rfl rfl rfl rfl ?_)
        first
        | refine ops_fl rfl rfl rfl (fl_load_blk ti9 rfl rfl rfl rfl rfl rfl rfl ?_)
        | refine ops_fl rfl rfl rfl (fl_load_cp ti9 rfl rfl rfl rfl rfl rfl ?_)
        refine ops_cons (T := fun _ => False) rfl (op_call ca7 rfl rfl rfl rfl (levelParsed_spec hgl l[i].t) (.cons (by first | exact .refl _ | exact .toD rfl | exact .nilD | exact .dle rfl (by repeat' (first | exact DLe.refl _ | exact DLe.nil | exact DLeL.nil | exact DLeLL.nil | apply DLe.agg | apply DLe.tup | apply DLe.sl | apply DLe.cp | apply DLeL.cons | apply DLeLL.cons))) .nil) (fun d hd => ?_))
        obtain rfl := hd
        refine ops_fl rfl rfl rfl (fl_assign rfl rfl ?_)
        refine ops_nil ?_
        refine seq_normal ?_
        refine runs_seq ?_
        refine runs_keep [5, 4, 3, 0] rfl ?_
        refine runs_region ?_
        refine ops_fl rfl rfl rfl (fl_move rfl rfl ?_)
        refine ops_fl rfl rfl rfl (fl_not rfl rfl ?_)
        refine ops_fl rfl rfl rfl (fl_move rfl rfl ?_)
        apply ops_or (yt := 32) (d := 30) 2 rfl rfl rfl (.none rfl) rfl rfl
        case h1 =>
          intro hb4 hK
          have hc := hb4; try simp only [decide_eq_true_eq, decide_eq_false_iff_not, Bool.not_eq_true', Bool.not_eq_false', Bool.not_true, Bool.not_false, Int.not_lt, Int.not_le, Bool.and_eq_true, Bool.or_eq_true, Bool.and_eq_false_iff, Bool.or_eq_false_iff, Bool.false_eq_true, Bool.true_eq_false, not_true_eq_false, not_false_eq_true, decide_true, decide_false, true_and, and_true, false_and, and_false, true_or, or_true, false_or, or_false, Bool.true_and, Bool.false_and, Bool.and_true, Bool.and_false, Bool.true_or, Bool.false_or, Bool.or_true, Bool.or_false, Int.reduceEq, Int.reduceNe, Int.reduceLT, Int.reduceLE, Int.toNat_natCast, toNat_add1] at hc
          all_goals try (first | contradiction | (exfalso; omega))
          all_goals (
            refine ops_gyes rfl rfl rfl hb4 ?_
            refine ops_fl rfl rfl rfl (fl_move rfl rfl ?_)
            refine ops_gyes rfl rfl rfl hb4 ?_
            refine ops_fl rfl rfl rfl (fl_not rfl rfl ?_)
            exact hK [_, _] rfl rfl)
        case h2 =>
          intro hb4 hK
          refine ops_gno rfl rfl rfl hb4 rfl rfl ?_
          refine ops_gno rfl rfl rfl hb4 rfl rfl ?_
          exact hK [_, _] rfl
        refine ops_nil ?_
        refine seq_normal ?_
        refine runs_cond rfl (fun h6 => ?_) (fun h6 => ?_)
        · try simp only [decide_eq_true_eq, decide_eq_false_iff_not, Bool.not_eq_true', Bool.not_eq_false', Bool.not_true, Bool.not_false, Int.not_lt, Int.not_le, Bool.and_eq_true, Bool.or_eq_true, Bool.and_eq_false_iff, Bool.or_eq_false_iff, Bool.false_eq_true, Bool.true_eq_false, not_true_eq_false, not_false_eq_true, decide_true, decide_false, true_and, and_true, false_and, and_false, true_or, or_true, false_or, or_false, Bool.true_and, Bool.false_and, Bool.and_true, Bool.and_false, Bool.true_or, Bool.false_or, Bool.or_true, Bool.or_false, Int.reduceEq, Int.reduceNe, Int.reduceLT, Int.reduceLE, Int.toNat_natCast, toNat_add1] at h6
          all_goals (first | contradiction | (exfalso; omega) | (exfalso; simp_all))
        · try simp only [decide_eq_true_eq, decide_eq_false_iff_not, Bool.not_eq_true', Bool.not_eq_false', Bool.not_true, Bool.not_false, Int.not_lt, Int.not_le, Bool.and_eq_true, Bool.or_eq_true, Bool.and_eq_false_iff, Bool.or_eq_false_iff, Bool.false_eq_true, Bool.true_eq_false, not_true_eq_false, not_false_eq_true, decide_true, decide_false, true_and, and_true, false_and, and_false, true_or, or_true, false_or, or_false, Bool.true_and, Bool.false_and, Bool.and_true, Bool.and_false, Bool.true_or, Bool.false_or, Bool.or_true, Bool.or_false, Int.reduceEq, Int.reduceNe, Int.reduceLT, Int.reduceLE, Int.toNat_natCast, toNat_add1] at h6
          all_goals try (first | contradiction | (exfalso; omega))
          all_goals (
            refine runs_skip ?_
            refine inb_normal ?_
            refine seq_normal ?_
            refine runs_keep [3, 0] rfl ?_
            refine runs_region ?_
            refine ops_fl rfl rfl rfl (fl_move rfl rfl ?_)
            refine ops_fl rfl rfl rfl (fl_add rfl rfl rfl (by omega) ?_)
            refine ops_fl rfl rfl rfl (fl_assign rfl rfl ?_)
            refine ops_nil ?_
            refine seq_back ?_
            refine back_i (i + 1) rfl ?_ ?_
            · exact ⟨⟨by omega, by omega⟩, by omega⟩
            · refine meets_of rfl rfl rfl ?_ (.cons rfl (by first | exact .refl _ | exact .toD rfl | exact .nilD | exact Fit.of_eq rfl | exact .dle rfl (by repeat' (first | exact DLe.refl _ | exact DLe.nil | exact DLeL.nil | exact DLeLL.nil | apply DLe.agg | apply DLe.tup | apply DLe.sl | apply DLe.cp | apply DLeL.cons | apply DLeLL.cons))) (.cons rfl (by first | exact .refl _ | exact .toD rfl | exact .nilD | exact Fit.of_eq rfl | exact .dle rfl (by repeat' (first | exact DLe.refl _ | exact DLe.nil | exact DLeL.nil | exact DLeLL.nil | apply DLe.agg | apply DLe.tup | apply DLe.sl | apply DLe.cp | apply DLeL.cons | apply DLeLL.cons))) .nil))
              repeat (first | exact .nil | refine .cons rfl (.cells rfl (FitL.rfl _)) ?_ | refine .cons rfl (.cells rfl (by repeat (first | exact .nil | refine .cons (by first | exact .refl _ | exact .toD rfl | exact .nil rfl | exact .nilD | exact Fit.of_eq rfl) ?_))) ?_ | refine .cons rfl .row ?_ | refine .cons rfl .mapI ?_ | refine .cons rfl .nnrow ?_ | refine .cons rfl .nrow ?_ | refine .cons rfl .dead ?_)
          )
      )
    · try simp only [decide_eq_true_eq, decide_eq_false_iff_not, Bool.not_eq_true', Bool.not_eq_false', Bool.not_true, Bool.not_false, Int.not_lt, Int.not_le, Bool.and_eq_true, Bool.or_eq_true, Bool.and_eq_false_iff, Bool.or_eq_false_iff, Bool.false_eq_true, Bool.true_eq_false, not_true_eq_false, not_false_eq_true, decide_true, decide_false, true_and, and_true, false_and, and_false, true_or, or_true, false_or, or_false, Bool.true_and, Bool.false_and, Bool.and_true, Bool.and_false, Bool.true_or, Bool.false_or, Bool.or_true, Bool.or_false, Int.reduceEq, Int.reduceNe, Int.reduceLT, Int.reduceLE, Int.toNat_natCast, toNat_add1] at h2
      all_goals try (first | contradiction | (exfalso; omega))
      all_goals (
        refine runs_exit ?_
        refine seq_exit ?_
        refine seq_exit ?_
        refine inb_exit ?_
        refine seq_normal ?_
        refine runs_seq ?_
        refine runs_keep [] rfl ?_
        refine runs_region ?_
        refine ops_fl rfl rfl rfl (fl_assign rfl rfl ?_)
        refine ops_nil ?_
        refine seq_normal ?_
        refine runs_ret ?_
        refine fin_ret ?_
        refine fin_d1 rfl rfl ?_
        rfl
      )
end Go.Proofs.YtafhnnbbfgoacaaDoor
