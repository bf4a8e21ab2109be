/-
  What is proved here: contracts of the program's term.Parse: what the reference's ParseTerm answers.
-/
import Derived.Test.YtneaancanfpdhaaGreatDoorYCt
import Derived.Test.YtneaancanfpdhaaGreatDoorYT5
set_option linter.unusedSimpArgs false
set_option linter.unusedVariables false
namespace Go.Proofs.YtneaancanfpdhaaGreatDoor
open Go Go.Vd Go.RowKit
attribute [local irreducible] Runs OpsR OpR FloatR AnyR AnyO
variable {g gl : Nat → List D}

theorem tclos_nil (x y z u v : D) : TriDf Tryz.prog gl 70 [.cells [.d (.v .nilIface)] 54, .cells [.d x, .d y, .d z, .d u, .d v] 31] [.blk 0 0, .blk 1 0] .ret (fun U' ob' => U' = .ret ∧ ob' = [.cells [.d (.v .nilIface)] 54, .cells [.d x, .d y, .d z, .d u, .d v] 31]) := by
  refine triDf_of_runs (Q0 := fun out ob' => out = .ret (.d (.tup [])) ∧ ob' = [.cells [.d (.v .nilIface)] 54, .cells [.d x, .d y, .d z, .d u, .d v] 31]) Tryz.func70 rfl Tryz.ntmps70 (rs := []) rfl rfl rfl 2 rfl ?_ ?_
  · rintro out ob' ⟨rfl, rfl⟩; exact ⟨⟨_, rfl⟩, rfl, rfl⟩
  refine sr ?_; refine o1 (ldb ti54 ?_); refine o1 (f_ineq_nil ii54 ?_); refine nx ?_; refine cd (fun h0 => ?_) (fun h0 => ?_)
  · simp only [nrm, Int.reduceEq, Int.reduceNe, Int.reduceLT, Int.reduceLE] at h0
  (try simp only [nrm, Int.reduceEq, Int.reduceNe, Int.reduceLT, Int.reduceLE] at h0); refine runs_skip ?_; refine fin_normal ?_
  refine fin_od (l := []) rfl rfl ([0, 1]) ([.cells [.d (.v .nilIface)] 54, .cells [.d x, .d y, .d z, .d u, .d v] 31]) rfl rfl rfl ?_ ?_
  · repeat (first | exact boz | refine boc ?_)
  · exact ⟨rfl, rfl⟩
theorem tclos_err (x y z u v : D) (c a : Int) : TriDf Tryz.prog gl 70 [.cells [.d (fltD c a)] 54, .cells [.d x, .d y, .d z, .d u, .d v] 31] [.blk 0 0, .blk 1 0] .ret (fun U' ob' => U' = .ret ∧ ob' = [.cells [.d (fltD c a)] 54, .cells [.d (.v (.int .i64 0)), .d (.v (.int .i64 0)), .d (.v (.string .empty)), .d (.v (.slice none 0 0)), .d (.v (.slice none 0 0))] 31]) := by
  refine triDf_of_runs (Q0 := fun out ob' => out = .ret (.d (.tup [])) ∧ ob' = [.cells [.d (fltD c a)] 54, .cells [.d (.v (.int .i64 0)), .d (.v (.int .i64 0)), .d (.v (.string .empty)), .d (.v (.slice none 0 0)), .d (.v (.slice none 0 0))] 31]) Tryz.func70 rfl Tryz.ntmps70 (rs := []) rfl rfl rfl 2 rfl ?_ ?_
  · rintro out ob' ⟨rfl, rfl⟩; exact ⟨⟨_, rfl⟩, rfl, rfl⟩
  unfold fltD
  refine sr ?_; refine o1 (ldb ti54 ?_); refine o1 (f_ineq_d ii54 ?_); refine nx ?_; refine cdf (fun h0 => ?_) (fun h0 => ?_)
  · simp only [nrm, Int.reduceEq, Int.reduceNe, Int.reduceLT, Int.reduceLE] at h0
  (try simp only [nrm, Int.reduceEq, Int.reduceNe, Int.reduceLT, Int.reduceLE] at h0); refine runs_region ?_; refine o1 (bld ti31 ?_); refine oc (sto ti31 ?_); refine ops_nil ?_; refine fin_normal ?_
  refine fin_od (l := []) rfl rfl ([0, 1]) ([.cells [.d (fltD c a)] 54, .cells [.d (.v (.int .i64 0)), .d (.v (.int .i64 0)), .d (.v (.string .empty)), .d (.v (.slice none 0 0)), .d (.v (.slice none 0 0))] 31]) rfl rfl rfl ?_ ?_
  · repeat (first | exact boz | refine boc ?_)
  · exact ⟨rfl, rfl⟩

theorem parseT_long {s : ByteArray} (h : s.size > 20000) : parseT s = (zeroT, 2, 0) := by unfold parseT; rw [if_pos h]
theorem parseT_fault {s : ByteArray} (h : ¬ s.size > 20000) {a : Nat} (hf : (doneR s (termR (s.size + 1) s ⟨0, none⟩).2).f = some a) : parseT s = (zeroT, 1, (a : Int)) := by
  unfold parseT; rw [if_neg h]; simp only [hf]
theorem parseT_fine {s : ByteArray} (h : ¬ s.size > 20000) (hf : (doneR s (termR (s.size + 1) s ⟨0, none⟩).2).f = none) : parseT s = ((termR (s.size + 1) s ⟨0, none⟩).1, 0, 0) := by
  unfold parseT; rw [if_neg h]; simp only [hf]
theorem tparse_spec (s : ByteArray) : TriD Tryz.prog (glT g) 33 [.v (.string s)] (· = .tup [(parseT s).1.d, errD (parseT s).2.1 (parseT s).2.2]) := by
  rcases hla : termR (s.size + 1) s ⟨0, none⟩ with ⟨la, pa, fa⟩
  obtain ⟨ka, ma, na, la, aa⟩ := la
  refine triS_of_runsD Tryz.func33 rfl Tryz.ntmps33 (rs := [.cell 2 31, .cell 3 54]) rfl rfl rfl 0 rfl ?_
  refine sr ?_; refine oc (T := fun _ => False) (alc ti31 ?_ (hl := by simp only [List.length_cons, List.length_nil, Nat.reduceAdd]; rfl))
  refine oc (T := fun _ => False) (alc ti54 ?_ (hl := by simp only [List.length_cons, List.length_nil, Nat.reduceAdd]; rfl)); refine nx ?_; refine runs_seq ?_; refine sr ?_; refine o1 (mv ?_); refine o1 (le3 ut9 ?_); refine o1 (igt ?_)
  refine nx ?_; refine cd (fun h1 => ?_) (fun h1 => ?_)
  · (try simp only [nrm, Int.reduceEq, Int.reduceNe, Int.reduceLT, Int.reduceLE] at h1)
    refine kp [3, 2] ?_; refine sr ?_; refine o1 (ldb ti31 ?_); refine o1 (bld ti33 ?_); refine oc (T := fun _ => False) (bx ti33 ?_ (hl := by simp only [List.length_cons, List.length_nil, Nat.reduceAdd]; rfl))
    refine ops_freeze 2 rfl rfl rfl rfl rfl rfl ?_; refine o1 (f_iface_d ?_); refine oc (sto ti31 ?_); refine oc (sto ti54 ?_); refine nx ?_; refine runs_ret ?_; refine seq_ret ?_; refine fin_ret ?_
    refine fin_dl ⟨_, _, rfl, (from_cell rfl rfl ti31 rfl rfl rfl rfl), ⟨_, _, rfl, (from_cell rfl rfl ti54 rfl rfl rfl rfl), rfl⟩⟩ rfl (.tup [zeroT.d, fltD 2 0]) (by repeat (first | exact .refl _ | exact .nil | refine .agg ?_ | refine .tup ?_ | refine .cons ?_ ?_)) ?_
    rw [parseT_long (by omega)]; rfl
  (try simp only [nrm, Int.reduceEq, Int.reduceNe, Int.reduceLT, Int.reduceLE] at h1); refine runs_skip ?_; refine seq_normal ?_; refine rd_start ?_; refine rd_defer_c ca70 rfl rfl rfl rfl rfl rfl rfl rfl rfl ?_
  refine rd_defer_f ca71 rfl rfl rfl rfl rfl ?_; refine rd_go 2 rfl ?_; refine runs_seq ?_
  have hs : s.size ≤ 1099511627776 := by omega
  have hlv := sread_spec (g := g) s hs (s.size + 1) 0 (Nat.zero_le _) (by omega)
  rw [hla] at hlv
  unfold scA scO at hlv
  have hle := termR_le (s := s) (s.size + 1) ⟨0, none⟩ (Nat.zero_le _)
  rw [hla] at hle
  simp only at hle
  refine runs_region ?_; refine o1 (mv ?_); refine oc (op_callo ca72 rfl rfl rfl rfl (new_spec s hs) [] .nil rfl rfl rfl rfl (fir .nil) (fun s ob' hq => ?_) (fun s ob' hq => ?_))
  rotate_left
  · first | exact hq.elim | cases hq.1
  obtain ⟨hq1, rfl⟩ := hq; cases hq1
  unfold scA scO
  refine ⟨_, _, _, _, _, rfl, rfl, rfl, rfl, rfl, ?_⟩; refine o1 (asg ?_); refine nx ?_; refine kp [4, 3, 2] ?_; refine sr ?_; refine o1 (mv ?_)
  refine oc (op_callo ca73 rfl rfl rfl rfl (hlv) [2] (boc .nil) rfl rfl rfl rfl (fir .nil) (fun s ob' hq => ?_) (fun s ob' hq => ?_))
  rotate_left
  · obtain ⟨a, hfa, rfl, rfl⟩ := hq.pan
    refine ⟨_, _, _, _, _, rfl, rfl, rfl, rfl, rfl, ?_⟩
    simp only at hfa; subst hfa
    refine ⟨_, rfl, fun n => ?_⟩; refine lv_call (catch_pan _ 1 a) [1] (.cons rfl (.cells rfl (FitL.rfl _)) .nil) rfl rfl rfl rfl (.cons (.refl _) .nil) (fun U' ob' hq => ?_); obtain ⟨rfl, rfl⟩ := hq; refine ⟨_, _, _, _, rfl, rfl, rfl, rfl, ?_⟩
    refine lv_call (tclos_err _ _ _ _ _ 1 a) [1, 0] (.cons rfl (.cells rfl (FitL.rfl _)) (.cons rfl (.cells rfl (FitL.rfl _)) .nil)) rfl rfl rfl rfl (.cons (.refl _) (.cons (.refl _) .nil)) (fun U' ob' hq => ?_); obtain ⟨rfl, rfl⟩ := hq
    refine ⟨_, _, _, _, rfl, rfl, rfl, rfl, ?_⟩; refine lv_end rfl ?_
    refine fin_dl ⟨_, _, rfl, (from_cell rfl rfl ti31 rfl rfl rfl rfl), ⟨_, _, rfl, (from_cell rfl rfl ti54 rfl rfl rfl rfl), rfl⟩⟩ rfl (.tup [zeroT.d, fltD 1 a]) (.tup (.cons (.agg (.cons (.refl _) (.cons (.refl _) (.cons (.refl _) (.cons .nil (.cons .nil .nil)))))) (.cons (.refl _) .nil))) ?_
    rw [parseT_fault (by omega) (a := a) (by rw [hla]; exact doneR_some)]; rfl
  obtain ⟨hfa, rfl, rfl⟩ := hq.ret
  simp only at hfa; subst hfa
  unfold scA scO
  refine ⟨_, _, _, _, _, rfl, rfl, rfl, rfl, rfl, ?_⟩; refine oc (sto ti31 ?_); refine nx ?_; refine sr ?_; refine o1 (mv ?_)
  refine oc (op_callo ca74 rfl rfl rfl rfl (send_spec s (stepAt s pa) (stepTok s pa) (tokR s pa).2.1) [2] (boc .nil) rfl rfl rfl rfl (fir .nil) (fun s ob' hq => ?_) (fun s ob' hq => ?_))
  rotate_left
  · rcases hq with ⟨_, hq1, _⟩ | ⟨hte, hq1, rfl⟩
    · cases hq1
    cases hq1; refine ⟨_, _, _, _, _, rfl, rfl, rfl, rfl, rfl, ?_⟩; refine ⟨_, rfl, fun n => ?_⟩
    refine lv_call (catch_pan _ 1 (tokR s pa).2.1) [1] (.cons rfl (.cells rfl (FitL.rfl _)) .nil) rfl rfl rfl rfl (.cons (.refl _) .nil) (fun U' ob' hq => ?_); obtain ⟨rfl, rfl⟩ := hq; refine ⟨_, _, _, _, rfl, rfl, rfl, rfl, ?_⟩
    refine lv_call (tclos_err _ _ _ _ _ 1 (tokR s pa).2.1) [1, 0] (.cons rfl (.cells rfl (FitL.rfl _)) (.cons rfl (.cells rfl (FitL.rfl _)) .nil)) rfl rfl rfl rfl (.cons (.refl _) (.cons (.refl _) .nil)) (fun U' ob' hq => ?_)
    obtain ⟨rfl, rfl⟩ := hq; refine ⟨_, _, _, _, rfl, rfl, rfl, rfl, ?_⟩; refine lv_end rfl ?_
    refine fin_dl ⟨_, _, rfl, (from_cell rfl rfl ti31 rfl rfl rfl rfl), ⟨_, _, rfl, (from_cell rfl rfl ti54 rfl rfl rfl rfl), rfl⟩⟩ rfl (.tup [zeroT.d, fltD 1 (tokR s pa).2.1]) (.tup (.cons (.agg (.cons (.refl _) (.cons (.refl _) (.cons (.refl _) (.cons .nil (.cons .nil .nil)))))) (.cons (.refl _) .nil))) ?_
    rw [parseT_fault (by omega) (a := (tokR s pa).2.1) (by rw [hla]; exact doneR_no hte)]; rfl
  rcases hq with ⟨hte, hq1, rfl⟩ | ⟨_, hq1, _⟩
  rotate_left
  · cases hq1
  cases hq1; refine ⟨_, _, _, _, _, rfl, rfl, rfl, rfl, rfl, ?_⟩; refine nx ?_; refine kp [3, 2] ?_; refine sr ?_; refine o1 (ldb ti31 ?_); refine oc (sto ti31 ?_); refine oc (sto ti54 ?_); refine nx ?_; refine runs_ret ?_; refine finT_ret ?_
  refine lv_call (catch_ret _) [1] (.cons rfl (.cells rfl (FitL.rfl _)) .nil) rfl rfl rfl rfl (.cons (.refl _) .nil) (fun U' ob' hq => ?_); obtain ⟨rfl, rfl⟩ := hq; refine ⟨_, _, _, _, rfl, rfl, rfl, rfl, ?_⟩
  refine lv_call (tclos_nil _ _ _ _ _) [1, 0] (.cons rfl (.cells rfl (FitL.rfl _)) (.cons rfl (.cells rfl (FitL.rfl _)) .nil)) rfl rfl rfl rfl (.cons (.refl _) (.cons (.refl _) .nil)) (fun U' ob' hq => ?_); obtain ⟨rfl, rfl⟩ := hq
  refine ⟨_, _, _, _, rfl, rfl, rfl, rfl, ?_⟩; refine lv_end rfl ?_
  refine fin_dl ⟨_, _, rfl, (from_cell rfl rfl ti31 rfl rfl rfl rfl), ⟨_, _, rfl, (from_cell rfl rfl ti54 rfl rfl rfl rfl), rfl⟩⟩ rfl (.tup [(Trm.mk ka ma na la aa).d, .v .nilIface]) (by exact .refl _) ?_
  rw [parseT_fine (by omega) (by rw [hla]; exact doneR_yes hte), hla]; rfl
end Go.Proofs.YtneaancanfpdhaaGreatDoor
