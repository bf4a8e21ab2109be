/-
  What is proved here: contracts of the reference's functions on levels: Worth, SubstLevel, PrintLevel; and of the statements' own: sameNames, limit.
-/
import Derived.Test.YtafhnnbbfgoacaaDoorYLevel
import Derived.Test.YtafhnnbbfgoacaaDoorYR1
set_option linter.unusedSimpArgs false
set_option linter.unusedVariables false
namespace Go.Proofs.YtafhnnbbfgoacaaDoor
open Go Go.Vd Go.RowKit
attribute [local irreducible] Runs OpsR OpR FloatR AnyR
variable {gl : Nat → List D}

theorem worth_spec (ps : List ByteArray) (ns : List Int) (hl : ps.length ≤ ns.length) (hl2 : ps.length ≤ 281474976710656) (hB : ∀ n ∈ ns, -1099511627776 ≤ n ∧ n ≤ 1099511627776) : ∀ x : Lev, x.size ≤ 1073741824 →
    TriD Tryd.prog gl 23 [x.toLvl.d, strsD ps, intsD ns] (· = .v (.int .i64 (x.worth (pval ps ns)))) := by
  have hlp := strs_len ps
  have hln := ints_len ns
  have hbd : ∀ x : Lev, -1099511627776 ≤ x.worth (pval ps ns) ∧ x.worth (pval ps ns) ≤ 1099511627776 + x.size := fun x => x.worth_bound (by omega) fun s => pval_bound (by omega) hB
  intro x
  induction x with
  | zero =>
    intro hsz
    refine triD_of_runs Tryd.func23 rfl Tryd.ntmps23 (rs := [.tmp 6]) rfl rfl rfl ?_
    refine sr ?_; refine oc (T := fun _ => False) (bx ti31 ?_ (hl := by simp only [List.length_cons, List.length_nil, Nat.reduceAdd]; rfl)); refine o1 (asg ?_); refine nx ?_; refine runs_seq ?_; refine sr ?_; refine o1 (fdb ti31 ?_)
    refine o1 (ldb ti3 ?_); refine nx ?_; refine runs_block ?_; refine sr ?_; refine o1 (ieq ?_); refine o1 (asg ?_); refine nx ?_; refine cdf (fun h2 => ?_) (fun h2 => ?_)
    · simp only [nrm, Int.reduceEq, Int.reduceNe, Int.reduceLT, Int.reduceLE] at h2
    (try simp only [nrm, Int.reduceEq, Int.reduceNe, Int.reduceLT, Int.reduceLE] at h2); refine kp [] ?_; refine sr ?_; refine o1 (asg ?_); refine nx ?_; refine runs_ret ?_; refine inb_ret ?_; refine seq_ret ?_; refine fin_ret ?_
    refine fin_d1 rfl rfl ?_
    rfl
  | succ a ih =>
    intro hsz
    simp only [Lev.size] at hsz
    have h9 := hbd a
    refine triD_of_runs Tryd.func23 rfl Tryd.ntmps23 (rs := [.tmp 6]) rfl rfl rfl ?_
    refine sr ?_; refine oc (T := fun _ => False) (bx ti31 ?_ (hl := by simp only [List.length_cons, List.length_nil, Nat.reduceAdd]; rfl)); refine o1 (asg ?_); refine nx ?_; refine runs_seq ?_; refine sr ?_; refine o1 (fdb ti31 ?_)
    refine o1 (ldb ti3 ?_); refine nx ?_; refine runs_block ?_; refine sr ?_; refine o1 (ieq ?_); refine o1 (asg ?_); refine nx ?_; refine cd (fun h2 => ?_) (fun h2 => ?_)
    · simp only [nrm, Int.reduceEq, Int.reduceNe, Int.reduceLT, Int.reduceLE] at h2
    (try simp only [nrm, Int.reduceEq, Int.reduceNe, Int.reduceLT, Int.reduceLE] at h2); refine kp [11, 3, 1, 2] ?_; refine sr ?_; refine o1 (ieq ?_); refine o1 (asg ?_); refine nx ?_; refine cdf (fun h4 => ?_) (fun h4 => ?_)
    · simp only [nrm, Int.reduceEq, Int.reduceNe, Int.reduceLT, Int.reduceLE] at h4
    (try simp only [nrm, Int.reduceEq, Int.reduceNe, Int.reduceLT, Int.reduceLE] at h4); refine sr ?_; refine o1 (fdb ti31 ?_); refine o1 (ldb ti29 ?_); refine o1 (ixs us29 te29 ?_ (he := by exact (rfl)))
    refine o1 (lda ti31 ?_ (hlen := by exact (Lvl.cells_len _))); refine o1 (mv ?_); refine o1 (mv ?_); refine oc (cv ca23 rfl rfl (ih (by omega)) (fir (fir (fir .nil))) ?_); refine o1 (iad ?_); refine o1 (asg ?_); refine nx ?_
    refine runs_ret ?_; refine inb_ret ?_; refine seq_ret ?_; refine fin_ret ?_; refine fin_d1 rfl rfl ?_
    rfl
  | param s =>
    intro hsz
    refine triD_of_runs Tryd.func23 rfl Tryd.ntmps23 (rs := [.tmp 6]) rfl rfl rfl ?_
    refine sr ?_; refine oc (T := fun _ => False) (bx ti31 ?_ (hl := by simp only [List.length_cons, List.length_nil, Nat.reduceAdd]; rfl)); refine o1 (asg ?_); refine nx ?_; refine runs_seq ?_; refine sr ?_; refine o1 (fdb ti31 ?_)
    refine o1 (ldb ti3 ?_); refine nx ?_; refine runs_block ?_; refine sr ?_; refine o1 (ieq ?_); refine o1 (asg ?_); refine nx ?_; refine cd (fun h2 => ?_) (fun h2 => ?_)
    · simp only [nrm, Int.reduceEq, Int.reduceNe, Int.reduceLT, Int.reduceLE] at h2
    (try simp only [nrm, Int.reduceEq, Int.reduceNe, Int.reduceLT, Int.reduceLE] at h2); refine kp [11, 3, 1, 2] ?_; refine sr ?_; refine o1 (ieq ?_); refine o1 (asg ?_); refine nx ?_; refine cd (fun h4 => ?_) (fun h4 => ?_)
    · simp only [nrm, Int.reduceEq, Int.reduceNe, Int.reduceLT, Int.reduceLE] at h4
    (try simp only [nrm, Int.reduceEq, Int.reduceNe, Int.reduceLT, Int.reduceLE] at h4); refine sr ?_; refine o1 (ieq ?_); refine o1 (asg ?_); refine nx ?_; refine cdf (fun h6 => ?_) (fun h6 => ?_)
    · simp only [nrm, Int.reduceEq, Int.reduceNe, Int.reduceLT, Int.reduceLE] at h6
    (try simp only [nrm, Int.reduceEq, Int.reduceNe, Int.reduceLT, Int.reduceLE] at h6); refine runs_seq ?_; refine kp [3, 1, 2] ?_; refine sr ?_; refine o1 (asg ?_); refine nx ?_; refine runs_block ?_
    apply runs_loop_c (ι := Nat) (fun i => [(7, int i)]) [3, 1, 2] (fun i => i ≤ ps.length ∧ s ∉ ps.take i) (fun i => ps.length - i) (0)
    case hk => exact rfl
    case hI =>
      exact ⟨Nat.zero_le _, by simp⟩
    case hm =>
      refine mo ?_ (sly (sly (sly (sly slz))))
      repeat (first | exact boz | refine boc ?_)
    case h =>
      rintro i hinv
      try dsimp only at hinv
      refine kp [7, 3, 1, 2] ?_; refine runs_seq ?_; refine sr ?_; refine o1 (mv ?_); refine o1 (mv ?_); refine o1 (le1 us36 ?_); refine o1 (ilt ?_); refine nx ?_; refine cdf (fun h8 => ?_) (fun h8 => ?_)
      · (try simp only [nrm, Int.reduceEq, Int.reduceNe, Int.reduceLT, Int.reduceLE] at h8)
        refine runs_exit ?_; refine seq_exit ?_; refine seq_exit ?_; refine inb_exit ?_; refine seq_normal ?_; refine kp [] ?_; refine sr ?_; refine o1 (asg ?_); refine nx ?_; refine runs_ret ?_; refine inb_ret ?_; refine seq_ret ?_
        refine fin_ret ?_; refine fin_d1 rfl rfl ?_
        have h := hinv.2
        rw [List.take_of_length_le (by omega)] at h
        simp only [Lev.worth, pval_none h]
      (try simp only [nrm, Int.reduceEq, Int.reduceNe, Int.reduceLT, Int.reduceLE] at h8); refine runs_skip ?_; refine seq_normal ?_; refine runs_seq ?_; refine runs_block ?_; refine runs_seq ?_; refine kp [7, 3, 1, 2] ?_
      refine a_start ?_ (hm := by exact mixed); refine A1 0 rfl (mv ⟨_, rfl, ?_⟩); refine A1 1 rfl (mv ⟨_, rfl, ?_⟩); refine A1 2 rfl (ixs us36 te36 ⟨_, rfl, ?_⟩ (he := by exact (str_at (by omega)))); refine A1 3 rfl (ldc ti9 ⟨_, rfl, ?_⟩)
      refine A1 4 rfl (fdb ti31 ⟨_, rfl, ?_⟩); refine A1 5 rfl (ldb ti9 ⟨_, rfl, ?_⟩); refine A1 6 rfl (seq1 ⟨_, rfl, ?_⟩); refine a_end ?_; refine seq_normal ?_; refine cdf (fun h10 => ?_) (fun h10 => ?_)
      · (try simp only [nrm, Int.reduceEq, Int.reduceNe, Int.reduceLT, Int.reduceLE] at h10)
        refine runs_skip ?_; refine inb_normal ?_; refine seq_normal ?_; refine kp [7, 3, 1, 2] ?_; refine runs_region ?_; refine o1 (mv ?_); refine o1 (iad ?_); refine o1 (asg ?_); refine ops_nil ?_; refine seq_back ?_
        refine back_i (i + 1) rfl ?_ ?_
        · exact ⟨⟨by omega, not_mem_take_succ (by omega) hinv.2 h10⟩, by omega⟩
        · refine mo ?_ (sly (sly (sly (sly slz))))
          repeat (first | exact boz | refine boc ?_)
      (try simp only [nrm, Int.reduceEq, Int.reduceNe, Int.reduceLT, Int.reduceLE] at h10); refine kp [7, 2] ?_; refine sr ?_; refine o1 (mv ?_); refine o1 (mv ?_)
      have hin : i < ns.length := by omega
      refine o1 (ixs us39 te39 ?_ (he := by exact (int_at (by omega)))); refine o1 (ldc ti3 ?_); refine o1 (asg ?_); refine nx ?_; refine runs_ret ?_; refine inb_ret ?_; refine seq_ret ?_; refine seq_ret ?_; refine inb_ret ?_; refine seq_ret ?_
      refine inb_ret ?_; refine seq_ret ?_; refine fin_ret ?_; refine fin_d1 rfl rfl ?_; obtain ⟨n, hn1, hn2⟩ := pval_at hl hinv.2 (show ps[i]? = some s by rw [List.getElem?_eq_getElem (by omega), h10])
      rw [List.getElem?_eq_getElem hin] at hn1
      simp only [Lev.worth, hn2]
      cases hn1; rfl
  | max a b iha ihb =>
    intro hsz
    simp only [Lev.size] at hsz
    have h9 := hbd a
    have h10 := hbd b
    refine triD_of_runs Tryd.func23 rfl Tryd.ntmps23 (rs := [.tmp 6]) rfl rfl rfl ?_
    refine sr ?_; refine oc (T := fun _ => False) (bx ti31 ?_ (hl := by simp only [List.length_cons, List.length_nil, Nat.reduceAdd]; rfl)); refine o1 (asg ?_); refine nx ?_; refine runs_seq ?_; refine sr ?_; refine o1 (fdb ti31 ?_)
    refine o1 (ldb ti3 ?_); refine nx ?_; refine runs_block ?_; refine sr ?_; refine o1 (ieq ?_); refine o1 (asg ?_); refine nx ?_; refine cd (fun h2 => ?_) (fun h2 => ?_)
    · simp only [nrm, Int.reduceEq, Int.reduceNe, Int.reduceLT, Int.reduceLE] at h2
    (try simp only [nrm, Int.reduceEq, Int.reduceNe, Int.reduceLT, Int.reduceLE] at h2); refine kp [11, 3, 1, 2] ?_; refine sr ?_; refine o1 (ieq ?_); refine o1 (asg ?_); refine nx ?_; refine cd (fun h4 => ?_) (fun h4 => ?_)
    · simp only [nrm, Int.reduceEq, Int.reduceNe, Int.reduceLT, Int.reduceLE] at h4
    (try simp only [nrm, Int.reduceEq, Int.reduceNe, Int.reduceLT, Int.reduceLE] at h4); refine sr ?_; refine o1 (ieq ?_); refine o1 (asg ?_); refine nx ?_; refine cd (fun h6 => ?_) (fun h6 => ?_)
    · simp only [nrm, Int.reduceEq, Int.reduceNe, Int.reduceLT, Int.reduceLE] at h6
    (try simp only [nrm, Int.reduceEq, Int.reduceNe, Int.reduceLT, Int.reduceLE] at h6); refine runs_skip ?_; refine inb_normal ?_; refine seq_normal ?_; refine kp [3, 1, 2] ?_; refine sr ?_; refine o1 (fdb ti31 ?_); refine o1 (ldb ti29 ?_)
    refine o1 (ixs us29 te29 ?_ (he := by exact (rfl))); refine o1 (lda ti31 ?_ (hlen := by exact (Lvl.cells_len _))); refine o1 (mv ?_); refine o1 (mv ?_); refine oc (cv ca23 rfl rfl (iha (by omega)) (fir (fir (fir .nil))) ?_)
    refine o1 (asg ?_); refine nx ?_; refine kp [8, 3, 1, 2] ?_; refine sr ?_; refine o1 (fdb ti31 ?_); refine o1 (ldb ti29 ?_); refine o1 (ixs us29 te29 ?_ (he := by exact (rfl))); refine o1 (lda ti31 ?_ (hlen := by exact (Lvl.cells_len _)))
    refine o1 (mv ?_); refine o1 (mv ?_); refine oc (cv ca23 rfl rfl (ihb (by omega)) (fir (fir (fir .nil))) ?_); refine o1 (asg ?_); refine nx ?_; refine runs_seq ?_; refine kp [9, 8, 3] ?_; refine sr ?_; refine o1 (fdb ti31 ?_)
    refine o1 (ldb ti3 ?_); refine o1 (ieq ?_); refine o1 (mv ?_); refine ops_set 60 false rfl (by decide) ?_; refine gno ?_ (hbw := by exact rfl); refine gno ?_ (hbw := by exact rfl); refine o1 (f_pick_f ?_); refine nx ?_
    refine cd (fun h15 => ?_) (fun h15 => ?_)
    · simp only [nrm, Int.reduceEq, Int.reduceNe, Int.reduceLT, Int.reduceLE] at h15
    (try simp only [nrm, Int.reduceEq, Int.reduceNe, Int.reduceLT, Int.reduceLE] at h15); refine runs_skip ?_; refine seq_normal ?_; refine runs_seq ?_; refine kp [9, 8] ?_; refine sr ?_; refine o1 (mv ?_); refine o1 (mv ?_); refine o1 (igt ?_)
    refine nx ?_; refine cd (fun h17 => ?_) (fun h17 => ?_)
    · (try simp only [nrm, Int.reduceEq, Int.reduceNe, Int.reduceLT, Int.reduceLE] at h17)
      refine kp [9] ?_; refine sr ?_; refine o1 (mv ?_); refine o1 (asg ?_); refine nx ?_; refine runs_ret ?_; refine seq_ret ?_; refine fin_ret ?_; refine fin_d1 rfl rfl ?_
      rw [show (Lev.max a b).worth (pval ps ns) = b.worth (pval ps ns) by simp only [Lev.worth]; omega]
    (try simp only [nrm, Int.reduceEq, Int.reduceNe, Int.reduceLT, Int.reduceLE] at h17); refine runs_skip ?_; refine seq_normal ?_; refine kp [8] ?_; refine sr ?_; refine o1 (mv ?_); refine o1 (asg ?_); refine nx ?_; refine runs_ret ?_
    refine fin_ret ?_; refine fin_d1 rfl rfl ?_
    rw [show (Lev.max a b).worth (pval ps ns) = a.worth (pval ps ns) by simp only [Lev.worth]; omega]
  | imax a b iha ihb =>
    intro hsz
    simp only [Lev.size] at hsz
    have h9 := hbd a
    have h10 := hbd b
    refine triD_of_runs Tryd.func23 rfl Tryd.ntmps23 (rs := [.tmp 6]) rfl rfl rfl ?_
    refine sr ?_; refine oc (T := fun _ => False) (bx ti31 ?_ (hl := by simp only [List.length_cons, List.length_nil, Nat.reduceAdd]; rfl)); refine o1 (asg ?_); refine nx ?_; refine runs_seq ?_; refine sr ?_; refine o1 (fdb ti31 ?_)
    refine o1 (ldb ti3 ?_); refine nx ?_; refine runs_block ?_; refine sr ?_; refine o1 (ieq ?_); refine o1 (asg ?_); refine nx ?_; refine cd (fun h2 => ?_) (fun h2 => ?_)
    · simp only [nrm, Int.reduceEq, Int.reduceNe, Int.reduceLT, Int.reduceLE] at h2
    (try simp only [nrm, Int.reduceEq, Int.reduceNe, Int.reduceLT, Int.reduceLE] at h2); refine kp [11, 3, 1, 2] ?_; refine sr ?_; refine o1 (ieq ?_); refine o1 (asg ?_); refine nx ?_; refine cd (fun h4 => ?_) (fun h4 => ?_)
    · simp only [nrm, Int.reduceEq, Int.reduceNe, Int.reduceLT, Int.reduceLE] at h4
    (try simp only [nrm, Int.reduceEq, Int.reduceNe, Int.reduceLT, Int.reduceLE] at h4); refine sr ?_; refine o1 (ieq ?_); refine o1 (asg ?_); refine nx ?_; refine cd (fun h6 => ?_) (fun h6 => ?_)
    · simp only [nrm, Int.reduceEq, Int.reduceNe, Int.reduceLT, Int.reduceLE] at h6
    (try simp only [nrm, Int.reduceEq, Int.reduceNe, Int.reduceLT, Int.reduceLE] at h6); refine runs_skip ?_; refine inb_normal ?_; refine seq_normal ?_; refine kp [3, 1, 2] ?_; refine sr ?_; refine o1 (fdb ti31 ?_); refine o1 (ldb ti29 ?_)
    refine o1 (ixs us29 te29 ?_ (he := by exact (rfl))); refine o1 (lda ti31 ?_ (hlen := by exact (Lvl.cells_len _))); refine o1 (mv ?_); refine o1 (mv ?_); refine oc (cv ca23 rfl rfl (iha (by omega)) (fir (fir (fir .nil))) ?_)
    refine o1 (asg ?_); refine nx ?_; refine kp [8, 3, 1, 2] ?_; refine sr ?_; refine o1 (fdb ti31 ?_); refine o1 (ldb ti29 ?_); refine o1 (ixs us29 te29 ?_ (he := by exact (rfl))); refine o1 (lda ti31 ?_ (hlen := by exact (Lvl.cells_len _)))
    refine o1 (mv ?_); refine o1 (mv ?_); refine oc (cv ca23 rfl rfl (ihb (by omega)) (fir (fir (fir .nil))) ?_); refine o1 (asg ?_); refine nx ?_; refine runs_seq ?_; refine kp [9, 8, 3] ?_; refine sr ?_; refine o1 (fdb ti31 ?_)
    refine o1 (ldb ti3 ?_); refine o1 (ieq ?_); refine o1 (mv ?_); refine ops_set 60 true rfl (by decide) ?_; refine gye ?_ (hbw := by exact rfl); refine o1 (mv ?_); refine gye ?_ (hbw := by exact rfl); refine o1 (ieq ?_)
    refine o1 (f_pick_t ?_); refine nx ?_; refine cd (fun h15 => ?_) (fun h15 => ?_)
    · (try simp only [nrm, Int.reduceEq, Int.reduceNe, Int.reduceLT, Int.reduceLE] at h15)
      refine kp [] ?_; refine sr ?_; refine o1 (asg ?_); refine nx ?_; refine runs_ret ?_; refine seq_ret ?_; refine fin_ret ?_; refine fin_d1 rfl rfl ?_
      rw [show (Lev.imax a b).worth (pval ps ns) = 0 by simp only [Lev.worth, h15, if_true]]
    (try simp only [nrm, Int.reduceEq, Int.reduceNe, Int.reduceLT, Int.reduceLE] at h15); refine runs_skip ?_; refine seq_normal ?_; refine runs_seq ?_; refine kp [9, 8] ?_; refine sr ?_; refine o1 (mv ?_); refine o1 (mv ?_); refine o1 (igt ?_)
    refine nx ?_; refine cd (fun h17 => ?_) (fun h17 => ?_)
    · (try simp only [nrm, Int.reduceEq, Int.reduceNe, Int.reduceLT, Int.reduceLE] at h17)
      refine kp [9] ?_; refine sr ?_; refine o1 (mv ?_); refine o1 (asg ?_); refine nx ?_; refine runs_ret ?_; refine seq_ret ?_; refine fin_ret ?_; refine fin_d1 rfl rfl ?_
      rw [show (Lev.imax a b).worth (pval ps ns) = b.worth (pval ps ns) by simp only [Lev.worth, h15, if_false]; omega]
    (try simp only [nrm, Int.reduceEq, Int.reduceNe, Int.reduceLT, Int.reduceLE] at h17); refine runs_skip ?_; refine seq_normal ?_; refine kp [8] ?_; refine sr ?_; refine o1 (mv ?_); refine o1 (asg ?_); refine nx ?_; refine runs_ret ?_
    refine fin_ret ?_; refine fin_d1 rfl rfl ?_
    rw [show (Lev.imax a b).worth (pval ps ns) = a.worth (pval ps ns) by simp only [Lev.worth, h15, if_false]; omega]
end Go.Proofs.YtafhnnbbfgoacaaDoor
