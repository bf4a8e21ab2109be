/-
  What is proved here: contracts of the program's level.Catch and level.Parse: what the reference's ParseLevel answers.
-/
import Derived.Test.YtafhnnbbfgoacaaDoorYS4
import Derived.Test.YtafhnnbbfgoacaaDoorY15
set_option linter.unusedSimpArgs false
set_option linter.unusedVariables false
namespace Go.Proofs.YtafhnnbbfgoacaaDoor
open Go Go.Vd Go.RowKit
attribute [local irreducible] Runs OpsR OpR FloatR AnyR AnyO
variable {gl : Nat → List D}

theorem catch_ret (E : D) : TriDf Tryd.prog gl 33 [.cells [.d E] 44] [.blk 0 0] .ret (fun U' ob' => U' = .ret ∧ ob' = [.cells [.d E] 44]) := by
  refine triDf_recover (Q0 := fun out ob' => out = .ret (.d (.tup [])) ∧ ob' = [.cells [.d E] 44]) (U' := .ret) Tryd.func33 rfl Tryd.ntmps33 (rs := []) rfl rfl rfl 1 rfl (fun _ _ => rfl) rfl rfl rfl (.inl ⟨rfl, rfl, rfl⟩) ?_ ?_
  · rintro out ob' ⟨rfl, rfl⟩; exact ⟨⟨_, rfl⟩, rfl, rfl⟩
  refine runs_block ?_; refine sr ?_; refine o1 (f_ieql_nil ii20 ?_); refine nx ?_; refine cdf (fun h3 => ?_) (fun h3 => ?_)
  · simp only [nrm, Int.reduceEq, Int.reduceNe, Int.reduceLT, Int.reduceLE] at h3
  (try simp only [nrm, Int.reduceEq, Int.reduceNe, Int.reduceLT, Int.reduceLE] at h3); refine runs_region ?_; refine o1 (asg ?_); refine ops_nil ?_; refine inb_normal ?_; refine fin_normal ?_
  refine fin_od (l := []) rfl rfl ([0]) ([.cells [.d E] 44]) rfl rfl rfl ?_ ?_
  · repeat (first | exact boz | refine boc ?_)
  · exact ⟨rfl, rfl⟩
theorem catch_pan (E : D) (c a : Int) : TriDf Tryd.prog gl 33 [.cells [.d E] 44] [.blk 0 0] (.pan (fltD c a) false) (fun U' ob' => U' = .pan (fltD c a) true ∧ ob' = [.cells [.d (fltD c a)] 44]) := by
  refine triDf_recover (Q0 := fun out ob' => out = .ret (.d (.tup [])) ∧ ob' = [.cells [.d (fltD c a)] 44]) (U' := .pan (fltD c a) true) Tryd.func33 rfl Tryd.ntmps33 (rs := []) rfl rfl rfl 1 rfl (fun _ _ => rfl) rfl rfl rfl (.inr ⟨_, rfl, rfl, rfl⟩) ?_ ?_
  · rintro out ob' ⟨rfl, rfl⟩; exact ⟨⟨_, rfl⟩, rfl, rfl⟩
  unfold fltD
  refine runs_block ?_; refine sr ?_; refine o1 (f_ieql_d ii20 ?_); refine nx ?_; refine cd (fun h3 => ?_) (fun h3 => ?_)
  · simp only [nrm, Int.reduceEq, Int.reduceNe, Int.reduceLT, Int.reduceLE] at h3
  (try simp only [nrm, Int.reduceEq, Int.reduceNe, Int.reduceLT, Int.reduceLE] at h3); refine sr ?_; refine o1 (f_tassert_yes ?_); refine o1 (ex2 ?_); refine o1 (ex2 ?_); refine nx ?_; refine cdf (fun h5 => ?_) (fun h5 => ?_)
  · simp only [nrm, Int.reduceEq, Int.reduceNe, Int.reduceLT, Int.reduceLE] at h5
  (try simp only [nrm, Int.reduceEq, Int.reduceNe, Int.reduceLT, Int.reduceLE] at h5); refine kp [10, 0] ?_; refine sr ?_; refine o1 (asg ?_); refine nx ?_; refine runs_region ?_; refine o1 (mv ?_); refine o1 (mv ?_); refine o1 (f_iface_d ?_)
  refine o1 (ncb ?_); refine oc (sto ti44 ?_); refine ops_nil ?_; refine inb_normal ?_; refine fin_normal ?_; refine fin_od (l := []) rfl rfl ([0]) ([.cells [.d (fltD c a)] 44]) rfl rfl rfl ?_ ?_
  · repeat (first | exact boz | refine boc ?_)
  · exact ⟨rfl, rfl⟩

theorem lclos_nil (x y z : D) : TriDf Tryd.prog gl 32 [.cells [.d (.v .nilIface)] 44, .cells [.d x, .d y, .d z] 31] [.blk 0 0, .blk 1 0] .ret (fun U' ob' => U' = .ret ∧ ob' = [.cells [.d (.v .nilIface)] 44, .cells [.d x, .d y, .d z] 31]) := by
  refine triDf_of_runs (Q0 := fun out ob' => out = .ret (.d (.tup [])) ∧ ob' = [.cells [.d (.v .nilIface)] 44, .cells [.d x, .d y, .d z] 31]) Tryd.func32 rfl Tryd.ntmps32 (rs := []) rfl rfl rfl 2 rfl ?_ ?_
  · rintro out ob' ⟨rfl, rfl⟩; exact ⟨⟨_, rfl⟩, rfl, rfl⟩
  refine sr ?_; refine o1 (ldb ti44 ?_); refine o1 (f_ineq_nil ii44 ?_); refine nx ?_; refine cd (fun h0 => ?_) (fun h0 => ?_)
  · simp only [nrm, Int.reduceEq, Int.reduceNe, Int.reduceLT, Int.reduceLE] at h0
  (try simp only [nrm, Int.reduceEq, Int.reduceNe, Int.reduceLT, Int.reduceLE] at h0); refine runs_skip ?_; refine fin_normal ?_
  refine fin_od (l := []) rfl rfl ([0, 1]) ([.cells [.d (.v .nilIface)] 44, .cells [.d x, .d y, .d z] 31]) rfl rfl rfl ?_ ?_
  · repeat (first | exact boz | refine boc ?_)
  · exact ⟨rfl, rfl⟩
theorem lclos_err (x y z : D) (c a : Int) : TriDf Tryd.prog gl 32 [.cells [.d (fltD c a)] 44, .cells [.d x, .d y, .d z] 31] [.blk 0 0, .blk 1 0] .ret (fun U' ob' => U' = .ret ∧ ob' = [.cells [.d (fltD c a)] 44, .cells [.d (.v (.int .i64 0)), .d (.v (.string .empty)), .d (.v (.slice none 0 0))] 31]) := by
  refine triDf_of_runs (Q0 := fun out ob' => out = .ret (.d (.tup [])) ∧ ob' = [.cells [.d (fltD c a)] 44, .cells [.d (.v (.int .i64 0)), .d (.v (.string .empty)), .d (.v (.slice none 0 0))] 31]) Tryd.func32 rfl Tryd.ntmps32 (rs := []) rfl rfl rfl 2 rfl ?_ ?_
  · rintro out ob' ⟨rfl, rfl⟩; exact ⟨⟨_, rfl⟩, rfl, rfl⟩
  unfold fltD
  refine sr ?_; refine o1 (ldb ti44 ?_); refine o1 (f_ineq_d ii44 ?_); refine nx ?_; refine cdf (fun h0 => ?_) (fun h0 => ?_)
  · simp only [nrm, Int.reduceEq, Int.reduceNe, Int.reduceLT, Int.reduceLE] at h0
  (try simp only [nrm, Int.reduceEq, Int.reduceNe, Int.reduceLT, Int.reduceLE] at h0); refine runs_region ?_; refine o1 (bld ti31 ?_); refine oc (sto ti31 ?_); refine ops_nil ?_; refine fin_normal ?_
  refine fin_od (l := []) rfl rfl ([0, 1]) ([.cells [.d (fltD c a)] 44, .cells [.d (.v (.int .i64 0)), .d (.v (.string .empty)), .d (.v (.slice none 0 0))] 31]) rfl rfl rfl ?_ ?_
  · repeat (first | exact boz | refine boc ?_)
  · exact ⟨rfl, rfl⟩

/-- an error, by its code and place -/
def errD (c a : Int) : D := if c = 0 then .v .nilIface else fltD c a
theorem errD_zero (a : Int) : errD 0 a = .v .nilIface := rfl
theorem errD_ne {c : Int} (h : ¬ c = 0) (a : Int) : errD c a = fltD c a := if_neg h
theorem parseR_long {s : ByteArray} (h : s.size > 20000) : parseR s = (zeroL, 2, 0) := by unfold parseR; rw [if_pos h]
theorem parseR_fault {s : ByteArray} (h : ¬ s.size > 20000) {a : Nat} (hf : (doneR s (levelR (s.size + 1) s ⟨0, none⟩).2).f = some a) : parseR s = (zeroL, 1, (a : Int)) := by
  unfold parseR; rw [if_neg h]; simp only [hf]
theorem parseR_fine {s : ByteArray} (h : ¬ s.size > 20000) (hf : (doneR s (levelR (s.size + 1) s ⟨0, none⟩).2).f = none) : parseR s = ((levelR (s.size + 1) s ⟨0, none⟩).1, 0, 0) := by
  unfold parseR; rw [if_neg h]; simp only [hf]
theorem doneR_some {s : ByteArray} {p a : Nat} : (doneR s ⟨p, some a⟩).f = some a := by
  unfold doneR; dsimp only; split <;> rfl
theorem doneR_no {s : ByteArray} {p : Nat} (h : ¬ stepTok s p = .empty) : (doneR s ⟨p, none⟩).f = some (tokR s p).2.1 := by
  unfold doneR; dsimp only
  rw [if_pos]; rfl
  cases h2 : (tokR s p).2.2 with
  | false => exact .inl rfl
  | true =>
    right; intro e; apply h; unfold stepTok; rw [if_pos h2, e]
theorem doneR_yes {s : ByteArray} {p : Nat} (h : stepTok s p = .empty) : (doneR s ⟨p, none⟩).f = none := by
  unfold doneR; dsimp only
  unfold stepTok at h
  split at h
  · rename_i h2
    rw [if_neg]; rintro (h3 | h3)
    · rw [h2] at h3; cases h3
    · exact h3 h
  · exact absurd h (by decide)
theorem send_spec (s : ByteArray) (b : Nat) (tok : ByteArray) (pos : Nat) :
    Tri Tryd.prog gl 36 [scO s b tok pos] [.blk 0 0] fun out ob' => (tok = .empty ∧ out = .ret (.d (.tup [])) ∧ ob' = [scO s b tok pos]) ∨ (¬ tok = .empty ∧ out = .pan (.d (fltD 1 pos)) ∧ ob' = [scO s b tok pos]) := by
  by_cases h : tok = .empty
  · subst h; exact (end_ok s b pos).mono fun o b hq => .inl ⟨rfl, hq⟩
  · exact (end_bad s b tok pos h).mono fun o b hq => .inr ⟨h, hq⟩

theorem lparse_spec (s : ByteArray) : TriD Tryd.prog gl 16 [.v (.string s)] (· = .tup [(parseR s).1.d, errD (parseR s).2.1 (parseR s).2.2]) := by
  rcases hla : levelR (s.size + 1) s ⟨0, none⟩ with ⟨la, pa, fa⟩
  obtain ⟨ka, na, aa⟩ := la
  refine triS_of_runsD Tryd.func16 rfl Tryd.ntmps16 (rs := [.cell 2 31, .cell 3 44]) rfl rfl rfl 0 rfl ?_
  refine sr ?_; refine oc (T := fun _ => False) (alc ti31 ?_ (hl := by simp only [List.length_cons, List.length_nil, Nat.reduceAdd]; rfl))
  refine oc (T := fun _ => False) (alc ti44 ?_ (hl := by simp only [List.length_cons, List.length_nil, Nat.reduceAdd]; rfl)); refine nx ?_; refine runs_seq ?_; refine sr ?_; refine o1 (mv ?_); refine o1 (le3 ut9 ?_); refine o1 (igt ?_)
  refine nx ?_; refine cd (fun h1 => ?_) (fun h1 => ?_)
  · (try simp only [nrm, Int.reduceEq, Int.reduceNe, Int.reduceLT, Int.reduceLE] at h1)
    refine kp [3, 2] ?_; refine sr ?_; refine o1 (ldb ti31 ?_); refine o1 (bld ti33 ?_); refine oc (T := fun _ => False) (bx ti33 ?_ (hl := by simp only [List.length_cons, List.length_nil, Nat.reduceAdd]; rfl))
    refine ops_freeze 2 rfl rfl rfl rfl rfl rfl ?_; refine o1 (f_iface_d ?_); refine oc (sto ti31 ?_); refine oc (sto ti44 ?_); refine nx ?_; refine runs_ret ?_; refine seq_ret ?_; refine fin_ret ?_
    refine fin_dl ⟨_, _, rfl, (from_cell rfl rfl ti31 rfl rfl rfl rfl), ⟨_, _, rfl, (from_cell rfl rfl ti44 rfl rfl rfl rfl), rfl⟩⟩ rfl (.tup [zeroL.d, fltD 2 0]) (by repeat (first | exact .refl _ | exact .nil | refine .agg ?_ | refine .tup ?_ | refine .cons ?_ ?_)) ?_
    rw [parseR_long (by omega)]; rfl
  (try simp only [nrm, Int.reduceEq, Int.reduceNe, Int.reduceLT, Int.reduceLE] at h1); refine runs_skip ?_; refine seq_normal ?_; refine rd_start ?_; refine rd_defer_c ca32 rfl rfl rfl rfl rfl rfl rfl rfl rfl ?_
  refine rd_defer_f ca33 rfl rfl rfl rfl rfl ?_; refine rd_go 2 rfl ?_; refine runs_seq ?_
  have hs : s.size ≤ 1099511627776 := by omega
  have hlv := slevel_spec (gl := gl) s hs (s.size + 1) 0 (Nat.zero_le _) (by omega)
  rw [hla] at hlv
  unfold scA scO at hlv
  have hle := levelR_le (s := s) (s.size + 1) (r := ⟨0, none⟩) (Nat.zero_le _)
  rw [hla] at hle
  simp only at hle
  refine runs_region ?_; refine o1 (mv ?_); refine oc (op_callo ca34 rfl rfl rfl rfl (new_spec s hs) [] .nil rfl rfl rfl rfl (fir .nil) (fun s ob' hq => ?_) (fun s ob' hq => ?_))
  rotate_left
  · first | exact hq.elim | cases hq.1
  obtain ⟨hq1, rfl⟩ := hq; cases hq1
  unfold scA scO
  refine ⟨_, _, _, _, _, rfl, rfl, rfl, rfl, rfl, ?_⟩; refine o1 (asg ?_); refine nx ?_; refine kp [4, 3, 2] ?_; refine sr ?_; refine o1 (mv ?_)
  refine oc (op_callo ca35 rfl rfl rfl rfl (hlv) [2] (boc .nil) rfl rfl rfl rfl (fir .nil) (fun s ob' hq => ?_) (fun s ob' hq => ?_))
  rotate_left
  · obtain ⟨a, hfa, rfl, rfl⟩ := hq.pan
    refine ⟨_, _, _, _, _, rfl, rfl, rfl, rfl, rfl, ?_⟩
    simp only at hfa; subst hfa
    refine ⟨_, rfl, fun n => ?_⟩; refine lv_call (catch_pan _ 1 a) [1] (.cons rfl (.cells rfl (FitL.rfl _)) .nil) rfl rfl rfl rfl (.cons (.refl _) .nil) (fun U' ob' hq => ?_); obtain ⟨rfl, rfl⟩ := hq; refine ⟨_, _, _, _, rfl, rfl, rfl, rfl, ?_⟩
    refine lv_call (lclos_err _ _ _ 1 a) [1, 0] (.cons rfl (.cells rfl (FitL.rfl _)) (.cons rfl (.cells rfl (FitL.rfl _)) .nil)) rfl rfl rfl rfl (.cons (.refl _) (.cons (.refl _) .nil)) (fun U' ob' hq => ?_); obtain ⟨rfl, rfl⟩ := hq
    refine ⟨_, _, _, _, rfl, rfl, rfl, rfl, ?_⟩; refine lv_end rfl ?_
    refine fin_dl ⟨_, _, rfl, (from_cell rfl rfl ti31 rfl rfl rfl rfl), ⟨_, _, rfl, (from_cell rfl rfl ti44 rfl rfl rfl rfl), rfl⟩⟩ rfl (.tup [zeroL.d, fltD 1 a]) (.tup (.cons (.agg (.cons (.refl _) (.cons (.refl _) (.cons .nil .nil)))) (.cons (.refl _) .nil))) ?_
    rw [parseR_fault (by omega) (a := a) (by rw [hla]; exact doneR_some)]; rfl
  obtain ⟨hfa, rfl, rfl⟩ := hq.ret
  simp only at hfa; subst hfa
  unfold scA scO
  refine ⟨_, _, _, _, _, rfl, rfl, rfl, rfl, rfl, ?_⟩; refine oc (sto ti31 ?_); refine nx ?_; refine sr ?_; refine o1 (mv ?_)
  refine oc (op_callo ca36 rfl rfl rfl rfl (send_spec s (stepAt s pa) (stepTok s pa) (tokR s pa).2.1) [2] (boc .nil) rfl rfl rfl rfl (fir .nil) (fun s ob' hq => ?_) (fun s ob' hq => ?_))
  rotate_left
  · rcases hq with ⟨_, hq1, _⟩ | ⟨hte, hq1, rfl⟩
    · cases hq1
    cases hq1; refine ⟨_, _, _, _, _, rfl, rfl, rfl, rfl, rfl, ?_⟩; refine ⟨_, rfl, fun n => ?_⟩
    refine lv_call (catch_pan _ 1 (tokR s pa).2.1) [1] (.cons rfl (.cells rfl (FitL.rfl _)) .nil) rfl rfl rfl rfl (.cons (.refl _) .nil) (fun U' ob' hq => ?_); obtain ⟨rfl, rfl⟩ := hq; refine ⟨_, _, _, _, rfl, rfl, rfl, rfl, ?_⟩
    refine lv_call (lclos_err _ _ _ 1 (tokR s pa).2.1) [1, 0] (.cons rfl (.cells rfl (FitL.rfl _)) (.cons rfl (.cells rfl (FitL.rfl _)) .nil)) rfl rfl rfl rfl (.cons (.refl _) (.cons (.refl _) .nil)) (fun U' ob' hq => ?_)
    obtain ⟨rfl, rfl⟩ := hq; refine ⟨_, _, _, _, rfl, rfl, rfl, rfl, ?_⟩; refine lv_end rfl ?_
    refine fin_dl ⟨_, _, rfl, (from_cell rfl rfl ti31 rfl rfl rfl rfl), ⟨_, _, rfl, (from_cell rfl rfl ti44 rfl rfl rfl rfl), rfl⟩⟩ rfl (.tup [zeroL.d, fltD 1 (tokR s pa).2.1]) (.tup (.cons (.agg (.cons (.refl _) (.cons (.refl _) (.cons .nil .nil)))) (.cons (.refl _) .nil))) ?_
    rw [parseR_fault (by omega) (a := (tokR s pa).2.1) (by rw [hla]; exact doneR_no hte)]; rfl
  rcases hq with ⟨hte, hq1, rfl⟩ | ⟨_, hq1, _⟩
  rotate_left
  · cases hq1
  cases hq1; refine ⟨_, _, _, _, _, rfl, rfl, rfl, rfl, rfl, ?_⟩; refine nx ?_; refine kp [3, 2] ?_; refine sr ?_; refine o1 (ldb ti31 ?_); refine oc (sto ti31 ?_); refine oc (sto ti44 ?_); refine nx ?_; refine runs_ret ?_; refine finT_ret ?_
  refine lv_call (catch_ret _) [1] (.cons rfl (.cells rfl (FitL.rfl _)) .nil) rfl rfl rfl rfl (.cons (.refl _) .nil) (fun U' ob' hq => ?_); obtain ⟨rfl, rfl⟩ := hq; refine ⟨_, _, _, _, rfl, rfl, rfl, rfl, ?_⟩
  refine lv_call (lclos_nil _ _ _) [1, 0] (.cons rfl (.cells rfl (FitL.rfl _)) (.cons rfl (.cells rfl (FitL.rfl _)) .nil)) rfl rfl rfl rfl (.cons (.refl _) (.cons (.refl _) .nil)) (fun U' ob' hq => ?_); obtain ⟨rfl, rfl⟩ := hq
  refine ⟨_, _, _, _, rfl, rfl, rfl, rfl, ?_⟩; refine lv_end rfl ?_
  refine fin_dl ⟨_, _, rfl, (from_cell rfl rfl ti31 rfl rfl rfl rfl), ⟨_, _, rfl, (from_cell rfl rfl ti44 rfl rfl rfl rfl), rfl⟩⟩ rfl (.tup [(Lvl.mk ka na aa).d, .v .nilIface]) (by exact .refl _) ?_
  rw [parseR_fine (by omega) (by rw [hla]; exact doneR_yes hte), hla]; rfl
end Go.Proofs.YtafhnnbbfgoacaaDoor
