/-
  What is proved here: contracts of limit, sameNames.
-/
import Derived.Test.YtafhnnbbfgoacaaDoorYR1
set_option linter.unusedSimpArgs false
set_option linter.unusedVariables false
namespace Go.Proofs.YtafhnnbbfgoacaaDoor
open Go Go.Vd Go.RowKit
attribute [local irreducible] Runs OpsR OpR FloatR AnyR AnyO
variable {gl : Nat → List D}

theorem limit_spec (n : Int) (h0 : -9223372036854775808 ≤ n) (h1 : n ≤ 9223372036854775807) : TriD Tryd.prog gl 11 [.v (.int .i64 n)] (· = .v (.int .i64 (if n < 0 then (-(n + 1)) % 6 else n % 6))) := by
  refine triD_of_runs Tryd.func11 rfl Tryd.ntmps11 (rs := [.tmp 2]) rfl rfl rfl ?_
  refine sr ?_; refine o1 (asg ?_); refine nx ?_; refine runs_seq ?_; refine sr ?_; refine o1 (mv ?_); refine o1 (ilt ?_); refine nx ?_; refine cdf (fun h1 => ?_) (fun h1 => ?_)
  · (try simp only [nrm, Int.reduceEq, Int.reduceNe, Int.reduceLT, Int.reduceLE] at h1)
    refine runs_skip ?_; refine seq_normal ?_; refine sr ?_; refine o1 (mv ?_); refine o1 (f_rem ?_); refine o1 (asg ?_); refine nx ?_; refine runs_ret ?_; refine fin_ret ?_; refine fin_d1 rfl rfl ?_
    rw [if_neg (by omega)]
  (try simp only [nrm, Int.reduceEq, Int.reduceNe, Int.reduceLT, Int.reduceLE] at h1); refine runs_region ?_; refine o1 (mv ?_); refine o1 (iad ?_); refine o1 (f_neg64 ?_); refine o1 (asg ?_); refine nx ?_; refine kp [0] ?_; refine sr ?_
  refine o1 (mv ?_); refine o1 (f_rem ?_); refine o1 (asg ?_); refine nx ?_; refine runs_ret ?_; refine fin_ret ?_; refine fin_d1 rfl rfl ?_
  rw [if_pos (by omega)]

theorem sameNames_spec (a b : List ByteArray) (ha : a.length ≤ 281474976710656) : TriD Tryd.prog gl 18 [strsD a, strsD b] (· = .v (.bool (decide (a = b)))) := by
  have hla := strs_len a
  have hlb := strs_len b
  refine triD_of_runs Tryd.func18 rfl Tryd.ntmps18 (rs := [.tmp 4]) rfl rfl rfl ?_
  refine sr ?_; refine o1 (asg ?_); refine nx ?_; refine runs_seq ?_; refine sr ?_; refine o1 (mv ?_); refine o1 (le1 us36 ?_); refine o1 (mv ?_); refine o1 (le1 us36 ?_); refine o1 (ine ?_); refine nx ?_
  refine cd (fun h1 => ?_) (fun h1 => ?_)
  · (try simp only [nrm, Int.reduceEq, Int.reduceNe, Int.reduceLT, Int.reduceLE] at h1)
    refine kp [] ?_; refine sr ?_; refine o1 (asg ?_); refine nx ?_; refine runs_ret ?_; refine seq_ret ?_; refine fin_ret ?_; refine fin_d1 rfl rfl ?_
    rw [decide_eq_false]
    intro e; subst e; omega
  (try simp only [nrm, Int.reduceEq, Int.reduceNe, Int.reduceLT, Int.reduceLE] at h1); refine runs_skip ?_; refine seq_normal ?_; refine runs_seq ?_; refine kp [0, 1] ?_; refine sr ?_; refine o1 (asg ?_); refine nx ?_; refine runs_block ?_
  apply runs_loop_c (ι := Nat) (fun i => [(5, int i)]) [0, 1] (fun i => i ≤ a.length ∧ a.take i = b.take i) (fun i => a.length - i) (0)
  case hk => exact rfl
  case hI =>
    exact ⟨Nat.zero_le _, rfl⟩
  case hm =>
    refine mo ?_ (sly (sly (sly slz))); exact boz
  case h =>
    rintro i hinv
    try dsimp only at hinv
    refine kp [5, 0, 1] ?_; refine runs_seq ?_; refine sr ?_; refine o1 (mv ?_); refine o1 (mv ?_); refine o1 (le1 us36 ?_); refine o1 (ilt ?_); refine nx ?_; refine cdf (fun h4 => ?_) (fun h4 => ?_)
    · (try simp only [nrm, Int.reduceEq, Int.reduceNe, Int.reduceLT, Int.reduceLE] at h4)
      refine runs_exit ?_; refine seq_exit ?_; refine seq_exit ?_; refine inb_exit ?_; refine seq_normal ?_; refine kp [] ?_; refine sr ?_; refine o1 (asg ?_); refine nx ?_; refine runs_ret ?_; refine fin_ret ?_; refine fin_d1 rfl rfl ?_
      have h := hinv.2
      rw [List.take_of_length_le (by omega), List.take_of_length_le (by omega)] at h
      rw [decide_eq_true h]
    (try simp only [nrm, Int.reduceEq, Int.reduceNe, Int.reduceLT, Int.reduceLE] at h4); refine runs_skip ?_; refine seq_normal ?_; refine runs_seq ?_; refine runs_block ?_; refine runs_seq ?_; refine kp [5, 0, 1] ?_
    refine a_start ?_ (hm := by exact mixed); refine A1 0 rfl (mv ⟨_, rfl, ?_⟩); refine A1 1 rfl (mv ⟨_, rfl, ?_⟩); refine A1 2 rfl (ixs us36 te36 ⟨_, rfl, ?_⟩ (he := by exact (str_at (by omega)))); refine A1 3 rfl (ldc ti9 ⟨_, rfl, ?_⟩)
    refine A1 4 rfl (mv ⟨_, rfl, ?_⟩); refine A1 5 rfl (mv ⟨_, rfl, ?_⟩); refine A1 6 rfl (ixs us36 te36 ⟨_, rfl, ?_⟩ (he := by exact (str_at (by omega)))); refine A1 7 rfl (ldc ti9 ⟨_, rfl, ?_⟩); refine A1 8 rfl (sne ⟨_, rfl, ?_⟩)
    refine a_end ?_; refine seq_normal ?_; refine cd (fun h6 => ?_) (fun h6 => ?_)
    · (try simp only [nrm, Int.reduceEq, Int.reduceNe, Int.reduceLT, Int.reduceLE] at h6)
      refine kp [] ?_; refine sr ?_; refine o1 (asg ?_); refine nx ?_; refine runs_ret ?_; refine inb_ret ?_; refine seq_ret ?_; refine seq_ret ?_; refine inb_ret ?_; refine seq_ret ?_; refine fin_ret ?_; refine fin_d1 rfl rfl ?_
      rw [decide_eq_false]
      intro e; subst e; exact h6 rfl
    (try simp only [nrm, Int.reduceEq, Int.reduceNe, Int.reduceLT, Int.reduceLE] at h6); refine runs_skip ?_; refine inb_normal ?_; refine seq_normal ?_; refine kp [5, 0, 1] ?_; refine runs_region ?_; refine o1 (mv ?_); refine o1 (iad ?_)
    refine o1 (asg ?_); refine ops_nil ?_; refine seq_back ?_; refine back_i (i + 1) rfl ?_ ?_
    · exact ⟨⟨by omega, by rw [List.take_add_one, List.take_add_one, hinv.2, List.getElem?_eq_getElem (show i < a.length by omega), List.getElem?_eq_getElem (show i < b.length by omega), h6]⟩, by omega⟩
    · refine mo ?_ (sly (sly (sly slz)))
      exact boz

end Go.Proofs.YtafhnnbbfgoacaaDoor
