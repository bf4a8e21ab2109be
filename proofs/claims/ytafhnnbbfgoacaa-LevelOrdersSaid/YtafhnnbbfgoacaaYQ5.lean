/-
  What is proved here: levelsHeld, LevelOrders: the program's comparing of levels answers what the reference's answers.
-/
import Derived.Test.YtafhnnbbfgoacaaYQ3
import Derived.Test.YtafhnnbbfgoacaaYQ4
import Derived.Test.YtafhnnbbfgoacaaYSt
set_option linter.unusedSimpArgs false
set_option linter.unusedVariables false
namespace Go.Proofs.Ytafhnnbbfgoacaa
open Go Go.Vd Go.RowKit
attribute [local irreducible] Runs OpsR OpR FloatR AnyR AnyO
variable {gl : Nat → List D}

theorem held_spec (K : Int) (S T U : ByteArray) (A B : Int) : TriD Try.prog gl 4 [opD K S T U A B] (· = .v (.bool true)) := by
  obtain ⟨x, hx, fx, wx⟩ := parseR_lev S
  obtain ⟨y, hy, fy, wy⟩ := parseR_lev T
  have pa := parseLevel_spec (gl := gl) S
  have pb := parseLevel_spec (gl := gl) T
  rw [hx] at pa
  rw [hy] at pb
  have sx := x.size_toLvl
  have sy := y.size_toLvl
  have wsx := x.size_le_weight
  have wsy := y.size_le_weight
  have hnx := nmL_of_fit x fx
  have hny := nmL_of_fit y fy
  have h1 := pLeq_spec (gl := gl) x y hnx hny (by omega) (by omega)
  have h2 := pSame_spec (gl := gl) x y hnx hny (by omega) (by omega)
  have h3' := fun h => rleq_spec (gl := gl) x y h (by omega) (by omega)
  have h4' := fun h h2 => rsame_spec (gl := gl) x y h h2 (by omega) (by omega)
  rw [refLeq_sem hnx hny] at h3' h4'
  rw [refLeq_sem hny hnx] at h4'
  have hsw := params_swap x y
  have hpx := x.params_toLvl (y.params [])
  have hpy := y.params_toLvl []
  have hplen := y.toLvl.params_len []
  rw [hpy] at hplen
  simp only [List.length_nil, Nat.zero_add] at hplen
  have hstl := strs_len (x.params (y.params []))
  obtain ⟨ka, na, aa, ea⟩ := Lvl.case x.toLvl
  obtain ⟨kb, nb, ab, eb⟩ := Lvl.case y.toLvl
  rw [ea] at pa sx h1 h2 h3' h4' hpx
  rw [eb] at pb sy h1 h2 h3' h4' hpy hplen
  have hp1 := params_spec (gl := gl) _ kb nb ab [] (Nat.le_refl _) (by simp; omega)
  have hp2 := params_spec (gl := gl) _ ka na aa (y.params []) (Nat.le_refl _) (by omega)
  rw [hpy] at hp1
  rw [hpx] at hp2
  have hps1 : x.ps y = y.params (x.params []) := rfl
  have hps2 : y.ps x = x.params (y.params []) := rfl
  rw [hps1] at h3' h4'
  rw [hps2] at h4'
  unfold opD
  refine triD_of_runs Try.func4 rfl Try.ntmps4 (rs := [.tmp 2]) rfl rfl rfl ?_
  refine sr ?_; refine oc (T := fun _ => False) (bx ti25 ?_ (hl := by simp only [List.length_cons, List.length_nil, Nat.reduceAdd]; rfl)); refine o1 (asg ?_); refine nx ?_; refine sr ?_; refine o1 (fdb ti25 ?_); refine o1 (ldb ti9 ?_)
  refine oc (cv ca5 rfl rfl (pa) (fir .nil) ?_); refine o1 (mv ?_); refine o1 (ex2 ?_); refine o1 (ex2 ?_); refine oc (T := fun _ => False) (alc ti29 ?_ (hl := by simp only [List.length_cons, List.length_nil, Nat.reduceAdd]; rfl))
  refine oc (T := fun _ => False) (alc ti31 ?_ (hl := by simp only [List.length_cons, List.length_nil, Nat.reduceAdd]; rfl)); refine oc (sto ti29 ?_); refine oc (sto ti31 ?_); refine nx ?_; refine kp [4, 3, 1] ?_; refine sr ?_
  refine o1 (fdb ti25 ?_); refine o1 (ldb ti9 ?_); refine oc (cv ca5 rfl rfl (pb) (fir .nil) ?_); refine o1 (mv ?_); refine o1 (ex2 ?_); refine o1 (ex2 ?_)
  refine oc (T := fun _ => False) (alc ti29 ?_ (hl := by simp only [List.length_cons, List.length_nil, Nat.reduceAdd]; rfl))
  refine oc (T := fun _ => False) (alc ti31 ?_ (hl := by simp only [List.length_cons, List.length_nil, Nat.reduceAdd]; rfl)); refine oc (sto ti29 ?_); refine oc (sto ti31 ?_); refine nx ?_; refine runs_seq ?_; refine runs_seq ?_
  refine kp [6, 5, 4, 3, 1] ?_; refine runs_nilrow 9 1 rfl ?_; refine a_start ?_ (hm := by exact mixed); refine A1 0 rfl (fdb ti31 ⟨_, rfl, ?_⟩); refine A1 1 rfl (ldb ti3 ⟨_, rfl, ?_⟩); refine A1 2 rfl (ine ⟨_, rfl, ?_⟩)
  refine A1 3 rfl (mv ⟨_, rfl, ?_⟩); refine asp 24 (fun hc => ?_) (fun hc => ?_)
  · (try simp only [nrm, Int.reduceEq, Int.reduceNe, Int.reduceLT, Int.reduceLE] at hc)
    refine A7 4 rfl ?_ (hlit := by exact (.inl rfl)); refine A7 5 rfl ?_ (hlit := by exact (.inl rfl)); refine A7 6 rfl ?_ (hlit := by exact (.inl rfl)); refine A1 7 rfl (f_pick_t ⟨_, rfl, ?_⟩); refine A1 8 rfl (mv ⟨_, rfl, ?_⟩)
    refine aspf 29 (fun hc => ?_) (fun hc => ?_)
    · simp only [nrm, Int.reduceEq, Int.reduceNe, Int.reduceLT, Int.reduceLE] at hc
    (try simp only [nrm, Int.reduceEq, Int.reduceNe, Int.reduceLT, Int.reduceLE] at hc); refine A7 9 rfl ?_ (hlit := by exact (.inl rfl)); refine A7 10 rfl ?_ (hlit := by exact (.inl rfl)); refine A7 11 rfl ?_ (hlit := by exact (.inl rfl))
    refine A7 12 rfl ?_ (hlit := by exact (.inl rfl)); refine A7 13 rfl ?_ (hlit := by exact (.inl rfl)); refine A7 14 rfl ?_ (hlit := by exact (.inl rfl)); refine A1 15 rfl (f_pick_t ⟨_, rfl, ?_⟩); refine A1 16 rfl (mv ⟨_, rfl, ?_⟩)
    refine aspf 37 (fun hc => ?_) (fun hc => ?_)
    · simp only [nrm, Int.reduceEq, Int.reduceNe, Int.reduceLT, Int.reduceLE] at hc
    (try simp only [nrm, Int.reduceEq, Int.reduceNe, Int.reduceLT, Int.reduceLE] at hc); refine A7 17 rfl ?_ (hlit := by exact (.inl rfl)); refine A7 18 rfl ?_ (hlit := by exact (.inl rfl)); refine A7 19 rfl ?_ (hlit := by exact (.inl rfl))
    refine A7 20 rfl ?_ (hlit := by exact (.inl rfl)); refine A1 21 rfl (f_pick_t ⟨_, rfl, ?_⟩); refine A1 22 rfl (mv ⟨_, rfl, ?_⟩); refine aspf 43 (fun hc => ?_) (fun hc => ?_)
    · simp only [nrm, Int.reduceEq, Int.reduceNe, Int.reduceLT, Int.reduceLE] at hc
    (try simp only [nrm, Int.reduceEq, Int.reduceNe, Int.reduceLT, Int.reduceLE] at hc); refine A7 23 rfl ?_ (hlit := by exact (.inl rfl)); refine A7 24 rfl ?_ (hlit := by exact (.inl rfl)); refine A7 25 rfl ?_ (hlit := by exact (.inl rfl))
    refine A7 26 rfl ?_ (hlit := by exact (.inl rfl)); refine A1 27 rfl (f_pick_t ⟨_, rfl, ?_⟩); refine a_end ?_; refine seq_normal ?_; refine cdf (fun h3 => ?_) (fun h3 => ?_)
    · simp only [nrm, Int.reduceEq, Int.reduceNe, Int.reduceLT, Int.reduceLE] at h3
    (try simp only [nrm, Int.reduceEq, Int.reduceNe, Int.reduceLT, Int.reduceLE] at h3); refine kp [] ?_; refine sr ?_; refine o1 (asg ?_); refine nx ?_; refine runs_ret ?_; refine seq_ret ?_; refine fin_ret ?_; refine fin_d1 rfl rfl ?_
    rfl
  (try simp only [nrm, Int.reduceEq, Int.reduceNe, Int.reduceLT, Int.reduceLE] at hc); refine A6 4 rfl (fdb ti31 ⟨_, rfl, ?_⟩); refine A6 5 rfl (ldb ti3 ⟨_, rfl, ?_⟩); refine A6 6 rfl (ine ⟨_, rfl, ?_⟩); refine A1 7 rfl (f_pick_f ⟨_, rfl, ?_⟩)
  refine A1 8 rfl (mv ⟨_, rfl, ?_⟩); refine asp 29 (fun hc => ?_) (fun hc => ?_)
  · (try simp only [nrm, Int.reduceEq, Int.reduceNe, Int.reduceLT, Int.reduceLE] at hc)
    refine A7 9 rfl ?_ (hlit := by exact (.inl rfl)); refine A7 10 rfl ?_ (hlit := by exact (.inl rfl)); refine A7 11 rfl ?_ (hlit := by exact (.inl rfl)); refine A7 12 rfl ?_ (hlit := by exact (.inl rfl))
    refine A7 13 rfl ?_ (hlit := by exact (.inl rfl)); refine A7 14 rfl ?_ (hlit := by exact (.inl rfl)); refine A1 15 rfl (f_pick_t ⟨_, rfl, ?_⟩); refine A1 16 rfl (mv ⟨_, rfl, ?_⟩); refine aspf 37 (fun hc => ?_) (fun hc => ?_)
    · simp only [nrm, Int.reduceEq, Int.reduceNe, Int.reduceLT, Int.reduceLE] at hc
    (try simp only [nrm, Int.reduceEq, Int.reduceNe, Int.reduceLT, Int.reduceLE] at hc); refine A7 17 rfl ?_ (hlit := by exact (.inl rfl)); refine A7 18 rfl ?_ (hlit := by exact (.inl rfl)); refine A7 19 rfl ?_ (hlit := by exact (.inl rfl))
    refine A7 20 rfl ?_ (hlit := by exact (.inl rfl)); refine A1 21 rfl (f_pick_t ⟨_, rfl, ?_⟩); refine A1 22 rfl (mv ⟨_, rfl, ?_⟩); refine aspf 43 (fun hc => ?_) (fun hc => ?_)
    · simp only [nrm, Int.reduceEq, Int.reduceNe, Int.reduceLT, Int.reduceLE] at hc
    (try simp only [nrm, Int.reduceEq, Int.reduceNe, Int.reduceLT, Int.reduceLE] at hc); refine A7 23 rfl ?_ (hlit := by exact (.inl rfl)); refine A7 24 rfl ?_ (hlit := by exact (.inl rfl)); refine A7 25 rfl ?_ (hlit := by exact (.inl rfl))
    refine A7 26 rfl ?_ (hlit := by exact (.inl rfl)); refine A1 27 rfl (f_pick_t ⟨_, rfl, ?_⟩); refine a_end ?_; refine seq_normal ?_; refine cdf (fun h3 => ?_) (fun h3 => ?_)
    · simp only [nrm, Int.reduceEq, Int.reduceNe, Int.reduceLT, Int.reduceLE] at h3
    (try simp only [nrm, Int.reduceEq, Int.reduceNe, Int.reduceLT, Int.reduceLE] at h3); refine kp [] ?_; refine sr ?_; refine o1 (asg ?_); refine nx ?_; refine runs_ret ?_; refine seq_ret ?_; refine fin_ret ?_; refine fin_d1 rfl rfl ?_
    rfl
  (try simp only [nrm, Int.reduceEq, Int.reduceNe, Int.reduceLT, Int.reduceLE] at hc); refine A6 9 rfl (ldb ti29 ⟨_, rfl, ?_⟩); refine A6 10 rfl (ldb ti29 ⟨_, rfl, ?_⟩)
  refine A3 11 rfl (ck ca6 rfl rfl (hp1) [5] rfl (bon .nil) (fid (.cons (.nil rfl) .nil)) ?_); refine A3 12 rfl (ck ca6 rfl rfl (hp2) [5] rfl (bor .nil) (fid (fir .nil)) ?_); refine A6 13 rfl (le2 us34 ⟨_, rfl, ?_⟩)
  refine A6 14 rfl (igt ⟨_, rfl, ?_⟩); refine A1 15 rfl (f_pick_f ⟨_, rfl, ?_⟩); refine A1 16 rfl (mv ⟨_, rfl, ?_⟩); refine asp 37 (fun hc => ?_) (fun hc => ?_)
  · (try simp only [nrm, Int.reduceEq, Int.reduceNe, Int.reduceLT, Int.reduceLE] at hc)
    refine A7 17 rfl ?_ (hlit := by exact (.inl rfl)); refine A7 18 rfl ?_ (hlit := by exact (.inl rfl)); refine A7 19 rfl ?_ (hlit := by exact (.inl rfl)); refine A7 20 rfl ?_ (hlit := by exact (.inl rfl))
    refine A1 21 rfl (f_pick_t ⟨_, rfl, ?_⟩); refine A1 22 rfl (mv ⟨_, rfl, ?_⟩); refine aspf 43 (fun hc => ?_) (fun hc => ?_)
    · simp only [nrm, Int.reduceEq, Int.reduceNe, Int.reduceLT, Int.reduceLE] at hc
    (try simp only [nrm, Int.reduceEq, Int.reduceNe, Int.reduceLT, Int.reduceLE] at hc); refine A7 23 rfl ?_ (hlit := by exact (.inl rfl)); refine A7 24 rfl ?_ (hlit := by exact (.inl rfl)); refine A7 25 rfl ?_ (hlit := by exact (.inl rfl))
    refine A7 26 rfl ?_ (hlit := by exact (.inl rfl)); refine A1 27 rfl (f_pick_t ⟨_, rfl, ?_⟩); refine a_end ?_; refine seq_normal ?_; refine cdf (fun h3 => ?_) (fun h3 => ?_)
    · simp only [nrm, Int.reduceEq, Int.reduceNe, Int.reduceLT, Int.reduceLE] at h3
    (try simp only [nrm, Int.reduceEq, Int.reduceNe, Int.reduceLT, Int.reduceLE] at h3); refine kp [] ?_; refine sr ?_; refine o1 (asg ?_); refine nx ?_; refine runs_ret ?_; refine seq_ret ?_; refine fin_ret ?_; refine fin_d1 rfl rfl ?_
    rfl
  (try simp only [nrm, Int.reduceEq, Int.reduceNe, Int.reduceLT, Int.reduceLE] at hc); refine A6 17 rfl (fdb ti25 ⟨_, rfl, ?_⟩); refine A6 18 rfl (ldb ti9 ⟨_, rfl, ?_⟩); refine A6 19 rfl (le3 ut9 ⟨_, rfl, ?_⟩)
  refine A6 20 rfl (igt ⟨_, rfl, ?_⟩); refine A1 21 rfl (f_pick_f ⟨_, rfl, ?_⟩); refine A1 22 rfl (mv ⟨_, rfl, ?_⟩); refine asp 43 (fun hc => ?_) (fun hc => ?_)
  · (try simp only [nrm, Int.reduceEq, Int.reduceNe, Int.reduceLT, Int.reduceLE] at hc)
    refine A7 23 rfl ?_ (hlit := by exact (.inl rfl)); refine A7 24 rfl ?_ (hlit := by exact (.inl rfl)); refine A7 25 rfl ?_ (hlit := by exact (.inl rfl)); refine A7 26 rfl ?_ (hlit := by exact (.inl rfl))
    refine A1 27 rfl (f_pick_t ⟨_, rfl, ?_⟩); refine a_end ?_; refine seq_normal ?_; refine cdf (fun h3 => ?_) (fun h3 => ?_)
    · simp only [nrm, Int.reduceEq, Int.reduceNe, Int.reduceLT, Int.reduceLE] at h3
    (try simp only [nrm, Int.reduceEq, Int.reduceNe, Int.reduceLT, Int.reduceLE] at h3); refine kp [] ?_; refine sr ?_; refine o1 (asg ?_); refine nx ?_; refine runs_ret ?_; refine seq_ret ?_; refine fin_ret ?_; refine fin_d1 rfl rfl ?_
    rfl
  (try simp only [nrm, Int.reduceEq, Int.reduceNe, Int.reduceLT, Int.reduceLE] at hc); refine A6 23 rfl (fdb ti25 ⟨_, rfl, ?_⟩); refine A6 24 rfl (ldb ti9 ⟨_, rfl, ?_⟩); refine A6 25 rfl (le3 ut9 ⟨_, rfl, ?_⟩)
  refine A6 26 rfl (igt ⟨_, rfl, ?_⟩); refine A1 27 rfl (f_pick_f ⟨_, rfl, ?_⟩); refine a_end ?_; refine seq_normal ?_; refine cd (fun h3 => ?_) (fun h3 => ?_)
  · (try simp only [nrm, Int.reduceEq, Int.reduceNe, Int.reduceLT, Int.reduceLE] at h3)
    refine kp [] ?_; refine sr ?_; refine o1 (asg ?_); refine nx ?_; refine runs_ret ?_; refine seq_ret ?_; refine fin_ret ?_; refine fin_d1 rfl rfl ?_
    rfl
  (try simp only [nrm, Int.reduceEq, Int.reduceNe, Int.reduceLT, Int.reduceLE] at h3); refine runs_skip ?_; refine seq_normal ?_; refine kp [5, 3] ?_; refine sr ?_; refine o1 (ldb ti29 ?_); refine o1 (ldb ti29 ?_)
  refine oc (cv ca7 rfl rfl (h1) (fid (fid .nil)) ?_); refine o1 (asg ?_); refine nx ?_; refine sr ?_; refine o1 (ldb ti29 ?_); refine o1 (ldb ti29 ?_); refine oc (cv ca8 rfl rfl (h2) (fid (fid .nil)) ?_); refine o1 (asg ?_); refine nx ?_
  refine kp [8, 7, 5, 3] ?_; refine sr ?_; refine o1 (mv ?_); refine o1 (ldb ti29 ?_); refine o1 (ldb ti29 ?_); refine oc (cv ca9 rfl rfl (h3' (by omega)) (fid (fid .nil)) ?_); refine o1 (fl_bqeql ub4 rfl rfl rfl ?_); refine o1 (mv ?_)
  apply ops_and (yt := 65) (d := 60) 5 rfl rfl rfl (.none rfl) rfl rfl
  case h1 =>
    intro hb11 hK
    have hc := hb11; (try simp only [nrm, Int.reduceEq, Int.reduceNe, Int.reduceLT, Int.reduceLE] at hc)
    refine gye ?_ (hbw := by exact hb11); refine o1 (mv ?_); refine gye ?_ (hbw := by exact hb11); refine o1 (ldb ti29 ?_); refine gye ?_ (hbw := by exact hb11); refine o1 (ldb ti29 ?_); refine gye ?_ (hbw := by exact hb11)
    refine oc (cv ca10 rfl rfl (h4' (by omega) (by omega)) (fid (fid .nil)) ?_); refine gye ?_ (hbw := by exact hb11); refine o1 (fl_bqeql ub4 rfl rfl rfl ?_); exact hK [_, _, _, _, _] rfl rfl
  case h2 =>
    intro hb11 hK; refine gno ?_ (hbw := by exact hb11); refine gno ?_ (hbw := by exact hb11); refine gno ?_ (hbw := by exact hb11); refine gno ?_ (hbw := by exact hb11); refine gno ?_ (hbw := by exact hb11); exact hK [_, _, _, _, _] rfl
  refine o1 (asg ?_); refine nx ?_; refine runs_ret ?_; refine fin_ret ?_; refine fin_d1 rfl rfl ?_
  simp

theorem orders_spec (l : List Step) : TriD Try.prog gl 3 [.sl 6 (steps l)] (· = .v (.bool true)) := by
  have hlen := steps_len l
  refine triD_of_runs Try.func3 rfl Try.ntmps3 (rs := [.tmp 2]) rfl rfl rfl ?_
  refine sr ?_; refine o1 (asg ?_); refine nx ?_; refine runs_seq ?_; refine sr ?_; refine o1 (asg ?_); refine nx ?_; refine runs_block ?_; refine kp [3, 0] ?_
  apply runs_loop_c (ι := Nat) (fun i => [(3, int i)]) [0] (fun i => i ≤ l.length ∧ i ≤ 1152921504606846976) (fun i => l.length - i) (0)
  case hk => exact rfl
  case hI =>
    exact ⟨Nat.zero_le _, by omega⟩
  case hm =>
    refine mo ?_ (sly (sly slz)); exact boz
  case h =>
    rintro i hinv
    try dsimp only at hinv
    refine kp [3, 0] ?_; refine runs_seq ?_; refine sr ?_; refine o1 (mv ?_); refine o1 (mv ?_); refine o1 (le1 us22 ?_); refine o1 (ilt ?_); refine o1 (mv ?_)
    apply ops_and (yt := 11) (d := 9) 2 rfl rfl rfl (.none rfl) rfl rfl
    case h1 =>
      intro hb9 hK
      have hc := hb9; (try simp only [nrm, Int.reduceEq, Int.reduceNe, Int.reduceLT, Int.reduceLE] at hc)
      refine gye ?_ (hbw := by exact hb9); refine o1 (mv ?_); refine gye ?_ (hbw := by exact hb9); refine o1 (ilt ?_); exact hK [_, _] rfl rfl
    case h2 =>
      intro hb9 hK; refine gno ?_ (hbw := by exact hb9); refine gno ?_ (hbw := by exact hb9); exact hK [_, _] rfl
    refine nx ?_; refine cdf (fun h2 => ?_) (fun h2 => ?_)
    · (try simp only [nrm, Int.reduceEq, Int.reduceNe, Int.reduceLT, Int.reduceLE] at h2)
      refine runs_exit ?_; refine seq_exit ?_; refine seq_exit ?_; refine inb_exit ?_; refine seq_normal ?_; refine kp [] ?_; refine sr ?_; refine o1 (asg ?_); refine nx ?_; refine runs_ret ?_; refine fin_ret ?_; refine fin_d1 rfl rfl ?_
      rfl
    (try simp only [nrm, Int.reduceEq, Int.reduceNe, Int.reduceLT, Int.reduceLE] at h2); refine runs_skip ?_; refine seq_normal ?_; refine runs_seq ?_; refine runs_block ?_; refine runs_seq ?_; refine kp [3, 0] ?_
    have hin : i < l.length := by omega
    refine runs_region ?_; refine o1 (mv ?_); refine o1 (mv ?_); refine o1 (ixs us22 te22 ?_ (he := by exact (step_at hin))); refine o1 (ldc ti25 ?_); refine oc (cv ca4 rfl rfl (held_spec l[i].k l[i].s l[i].t l[i].u l[i].a l[i].b) (fid .nil) ?_)
    refine o1 (asg ?_); refine nx ?_; refine kp [4, 3, 0] ?_; refine sr ?_; refine o1 (mv ?_); refine o1 (f_not ?_); refine nx ?_; refine cd (fun h5 => ?_) (fun h5 => ?_)
    · simp only [nrm, Int.reduceEq, Int.reduceNe, Int.reduceLT, Int.reduceLE] at h5
    (try simp only [nrm, Int.reduceEq, Int.reduceNe, Int.reduceLT, Int.reduceLE] at h5); refine runs_skip ?_; refine inb_normal ?_; refine seq_normal ?_; refine runs_region ?_; refine o1 (mv ?_); refine o1 (iad ?_); refine o1 (asg ?_)
    refine ops_nil ?_; refine seq_back ?_; refine back_i (i + 1) rfl ?_ ?_
    · exact ⟨⟨by omega, by omega⟩, by omega⟩
    · refine mo ?_ (sly (sly slz))
      exact boz
end Go.Proofs.Ytafhnnbbfgoacaa
