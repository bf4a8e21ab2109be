/-
  What is proved here: contracts of strings.Builder's methods.
-/
import Derived.Test.YtafhnnbbfgoacaaDoorYFacts
set_option linter.unusedSimpArgs false
set_option linter.unusedVariables false
namespace Go.Proofs.YtafhnnbbfgoacaaDoor
open Go Go.Vd Go.RowKit
attribute [local irreducible] Runs OpsR OpR FloatR AnyR
variable {gl : Nat → List D}

/-- a builder: used or not, and what it holds -/
def bldA (used : Bool) : SV := cond used (.blk 0 0) (.d (.v (.pointer none)))
def bldO (used : Bool) (s : ByteArray) : List Ob := [.cells [bldA used, .own 1 1 (bytesD s)] 63, .row 5 1]

theorem noesc (y : Value) (w : World) : (callFunc 67 #[y]).run Tryd.prog w = .ok (.value y) w := by
  rw [run_callFunc_extern Tryd.func67 (by kernel_rfl) (by kernel_rfl) (by kernel_rfl) (e := Extern.AbiNoEscape.same) (by kernel_rfl)]
  rw [Lib.run_noEscape]
  rfl

theorem check_spec (used : Bool) (s : ByteArray) :
    Tri Tryd.prog gl 57 (bldO used s) [.blk 0 0] fun out ob' => out = .ret (.d (.tup [])) ∧ ob' = bldO true s := by
  cases used with
  | false =>
    unfold bldO bldA
    dsimp only [cond_true, cond_false]
    refine triS_of_runs Tryd.func57 rfl Tryd.ntmps57 (rs := []) rfl rfl rfl 2 rfl ?_
    refine sr ?_; refine o1 (mv ?_); refine o1 (ncb ?_); refine o1 (fdb ti63 ?_); refine o1 (ldb ti60 ?_); refine o1 (f_peql_nil up60 ?_); refine nx ?_; refine cdf (fun h0 => ?_) (fun h0 => ?_)
    · simp only [nrm, Int.reduceEq, Int.reduceNe, Int.reduceLT, Int.reduceLE] at h0
    (try simp only [nrm, Int.reduceEq, Int.reduceNe, Int.reduceLT, Int.reduceLE] at h0); refine kp [0] ?_; refine runs_region ?_; refine o1 (mv ?_); refine o1 (mv ?_)
    refine oc (T := fun _ => False) (op_to_unsafe up60 uu98 ti63 rfl rfl rfl rfl rfl rfl rfl ?_); refine oc (T := fun _ => False) (op_same noesc rfl rfl rfl rfl ?_)
    refine oc (T := fun _ => False) (op_from_unsafe uu98 up60 ti63 rfl (by kernel_rfl) rfl rfl rfl rfl rfl rfl ?_); refine o1 (ncb ?_); refine o1 (fdb ti63 ?_); refine oc (sto ti60 ?_); refine ops_nil ?_; refine fin_normal ?_
    refine fin_od (l := []) rfl rfl ([0, 1]) ([.cells [.blk 0 0, .own 1 1 (bytesD s)] 63, .row 5 1]) rfl rfl rfl ?_ ?_
    · repeat (first | exact boz | refine boc ?_ | refine bor ?_)
    · exact ⟨rfl, rfl⟩
  | true =>
    unfold bldO bldA
    dsimp only [cond_true, cond_false]
    refine triS_of_runs Tryd.func57 rfl Tryd.ntmps57 (rs := []) rfl rfl rfl 2 rfl ?_
    refine sr ?_; refine o1 (mv ?_); refine o1 (ncb ?_); refine o1 (fdb ti63 ?_); refine o1 (ldb ti60 ?_); refine o1 (f_peql_blk up60 ?_); refine nx ?_; refine cd (fun h0 => ?_) (fun h0 => ?_)
    · simp only [nrm, Int.reduceEq, Int.reduceNe, Int.reduceLT, Int.reduceLE] at h0
    (try simp only [nrm, Int.reduceEq, Int.reduceNe, Int.reduceLT, Int.reduceLE] at h0); refine kp [0] ?_; refine sr ?_; refine o1 (mv ?_); refine o1 (ncb ?_); refine o1 (fdb ti63 ?_); refine o1 (ldb ti60 ?_); refine o1 (mv ?_)
    refine o1 (f_pneq_self up60 ti63 ?_); refine nx ?_; refine cd (fun h2 => ?_) (fun h2 => ?_)
    · simp only [nrm, Int.reduceEq, Int.reduceNe, Int.reduceLT, Int.reduceLE] at h2
    (try simp only [nrm, Int.reduceEq, Int.reduceNe, Int.reduceLT, Int.reduceLE] at h2); refine runs_skip ?_; refine fin_normal ?_
    refine fin_od (l := []) rfl rfl ([0, 1]) ([.cells [.blk 0 0, .own 1 1 (bytesD s)] 63, .row 5 1]) rfl rfl rfl ?_ ?_
    · repeat (first | exact boz | refine boc ?_ | refine bor ?_)
    · exact ⟨rfl, rfl⟩

theorem ws_spec (used : Bool) (s t : ByteArray) (ht : t ≠ .empty) (hb : s.size + t.size ≤ 70368744177664) :
    Tri Tryd.prog gl 48 (bldO used s) [.blk 0 0, .d (.v (.string t))] fun out ob' => out = .ret (.d (.tup [.v (.int .i64 t.size), .v .nilIface])) ∧ ob' = bldO true (s ++ t) := by
  have hck := check_spec (gl := gl) used s
  cases used
  all_goals (
    unfold bldO bldA
    dsimp only [cond_true, cond_false]
    refine triS_of_runs Tryd.func48 rfl Tryd.ntmps48 (rs := [.tmp 4, .tmp 5]) rfl rfl rfl 2 rfl ?_
    refine sr ?_; refine o1 (asg ?_); refine o1 (asg ?_); refine nx ?_; refine sr ?_; refine o1 (mv ?_); refine oc (ck ca57 rfl rfl (hck) [0, 1] rfl (boc (bor .nil)) (fir .nil) ?_); refine nx ?_; refine kp [0, 1] ?_; refine sr ?_
    refine o1 (mv ?_); refine o1 (mv ?_); refine o1 (ncb ?_); refine o1 (fdb ti63 ?_); refine o1 (ldb ti61 ?_); refine o1 (mv ?_); refine oc (op_appends sl61 ut9 rfl rfl rfl rfl rfl rfl (.inl rfl) (ht) (by omega) rfl rfl rfl ?_)
    refine o1 (ncb ?_); refine o1 (fdb ti63 ?_); refine oc (sto ti61 ?_); refine nx ?_; refine kp [1] ?_; refine sr ?_; refine o1 (mv ?_); refine o1 (le3 ut9 ?_); refine o1 (asg ?_); refine o1 (asg ?_); refine nx ?_; refine runs_ret ?_
    refine fin_ret ?_; refine fin_od ⟨_, _, rfl, rfl, ⟨_, _, rfl, rfl, rfl⟩⟩ rfl ([0, 1]) ([.cells [.blk 0 0, .own 1 1 (bytesD (s ++ t))] 63, .row 5 1]) rfl rfl rfl ?_ ?_
    · repeat (first | exact boz | refine boc ?_ | refine bor ?_)
    · exact ⟨rfl, rfl⟩
  )

theorem bytesD_push (s : ByteArray) (c : UInt8) : bytesD s ++ [[.v (.int .u8 c.toNat)]] = bytesD (s ++ ⟨#[c]⟩) := by
  rw [← bytesD_app]; rfl

theorem wb_spec (used : Bool) (s : ByteArray) (c : UInt8) (hb : s.size ≤ 70368744177664) :
    Tri Tryd.prog gl 49 (bldO used s) [.blk 0 0, .d (.v (.int .u8 c.toNat))] fun out ob' => out = .ret (.d (.v .nilIface)) ∧ ob' = bldO true (s ++ ⟨#[c]⟩) := by
  have hl := bytesD_len s
  have hck := check_spec (gl := gl) used s
  cases used
  all_goals (
    unfold bldO bldA
    dsimp only [cond_true, cond_false]
    refine triS_of_runs Tryd.func49 rfl Tryd.ntmps49 (rs := [.tmp 4]) rfl rfl rfl 2 rfl ?_
    refine sr ?_; refine o1 (asg ?_); refine nx ?_; refine sr ?_; refine o1 (mv ?_); refine oc (ck ca57 rfl rfl (hck) [0, 1] rfl (boc (bor .nil)) (fir .nil) ?_); refine nx ?_; refine sr ?_; refine o1 (mv ?_); refine o1 (mv ?_)
    refine o1 (ncb ?_); refine o1 (fdb ti63 ?_); refine o1 (ldb ti61 ?_); refine o1 (mv ?_)
    refine oc (T := fun _ => False) (op_lit sl61 [.tmp 12] ti5 rfl rfl rfl rfl rfl rfl rfl (by decide) (by decide) (by decide) (by simp only [List.length_cons, List.length_nil, Nat.reduceAdd]; rfl) rfl ?_)
    refine oc (op_append sl61 rfl rfl rfl rfl rfl rfl rfl (.inl rfl) (by decide) (by simp) (by simp only [maxLen, hl, List.length_cons, List.length_nil]; omega) rfl rfl rfl ?_); refine o1 (ncb ?_); refine o1 (fdb ti63 ?_)
    refine oc (sto ti61 ?_); refine nx ?_; refine kp [] ?_; refine sr ?_; refine o1 (asg ?_); refine nx ?_; refine runs_ret ?_; refine fin_ret ?_
    refine fin_od ⟨_, _, rfl, rfl, rfl⟩ rfl ([0, 1]) ([.cells [.blk 0 0, .own 1 1 (bytesD s ++ [[.v (.int .u8 c.toNat)]])] 63, .row 5 1]) rfl rfl rfl ?_ ?_
    · repeat (first | exact boz | refine boc ?_ | refine bor ?_)
    · exact ⟨rfl, by rw [bytesD_push]⟩
  )

theorem bstr_spec (s : ByteArray) (hs : s ≠ .empty) :
    Tri Tryd.prog gl 31 (bldO true s) [.blk 0 0] fun out ob' => out = .ret (.d (.v (.string s))) ∧ ob' = [.dead, .dead] := by
  have hl := bytesD_len s
  have hne := bytesD_ne hs
  unfold bldO
  refine triS_of_runs Tryd.func31 rfl Tryd.ntmps31 (rs := [.tmp 2]) rfl rfl rfl 2 rfl ?_
  refine sr ?_; refine o1 (asg ?_); refine nx ?_; refine runs_seq ?_; refine a_start ?_ (hm := by exact mixed); refine A1 0 rfl (mv ⟨_, rfl, ?_⟩); refine A1 1 rfl (ncb ⟨_, rfl, ?_⟩); refine A1 2 rfl (fdb ti63 ⟨_, rfl, ?_⟩)
  refine A1 3 rfl (ldb ti61 ⟨_, rfl, ?_⟩); refine A1 4 rfl (f_usd ⟨_, rfl, ?_⟩ (hne := by exact hne)); refine A1 5 rfl (mv ⟨_, rfl, ?_⟩); refine A1 6 rfl (ncb ⟨_, rfl, ?_⟩); refine A1 7 rfl (fdb ti63 ⟨_, rfl, ?_⟩)
  refine A1 8 rfl (ldb ti61 ⟨_, rfl, ?_⟩); refine A1 9 rfl (le2 us61 ⟨_, rfl, ?_⟩); refine A2 10 rfl (op_ustr (u := 6) up88 (by kernel_rfl) rfl rfl rfl rfl rfl rfl rfl hs (by rw [hl]) rfl rfl ?_); refine A1 11 rfl (asg ⟨_, rfl, ?_⟩)
  refine a_end ?_; refine seq_normal ?_; refine runs_ret ?_; refine fin_ret ?_; refine fin_od ⟨_, _, rfl, rfl, rfl⟩ rfl ([0, 1]) ([.dead, .dead]) rfl rfl rfl ?_ ?_
  · repeat (first | exact boz | refine bod ?_)
  · exact ⟨rfl, rfl⟩
end Go.Proofs.YtafhnnbbfgoacaaDoor
