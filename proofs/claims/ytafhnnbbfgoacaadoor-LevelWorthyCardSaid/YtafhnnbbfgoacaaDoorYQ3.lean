/-
  What is proved here: contracts of the program's leq, Leq, Same: below under all numbers.
-/
import Derived.Test.YtafhnnbbfgoacaaDoorYQ2
set_option linter.unusedSimpArgs false
set_option linter.unusedVariables false
namespace Go.Proofs.YtafhnnbbfgoacaaDoor
open Go Go.Vd Go.RowKit
attribute [local irreducible] Runs OpsR OpR FloatR AnyR AnyO
variable {gl : Nat → List D}

theorem leq_spec (a b : Lev) (hna : nmL a) (hnb : nmL b) (hsa : a.size ≤ 1099511627776) (hsb : b.size ≤ 1099511627776) : ∀ (n : Nat) (z o : MapF), Ones z → Ones o → (∀ q, z q ≠ none → o q = none) → freeN z o (b.params (a.params [])) < n →
    Tri Tryd.prog gl 29 [.mapI z, .mapI o] [.d a.toLvl.d, .d b.toLvl.d, .map 0, .map 1] fun out ob' => ∃ c, out = .ret (.d (.v (.bool c))) ∧ ob' = [.mapI z, .mapI o] ∧ LeqA z o a b c := by
  intro n
  induction n with
  | zero => intro z o _ _ _ h; omega
  | succ n ih =>
    intro z o hz ho hd hn
    have sa := shape_spec (gl := gl) z o hz ho a hna hsa
    have sb := shape_spec (gl := gl) z o hz ho b hnb hsb
    obtain ⟨ka, na, aa, hXa⟩ := Lvl.case a.toLvl
    obtain ⟨kb, nb, ab, hXb⟩ := Lvl.case b.toLvl
    rw [hXa, hXb] at ih ⊢
    rw [hXa] at sa
    rw [hXb] at sb
    refine triS_of_runs Tryd.func29 rfl Tryd.ntmps29 (rs := [.tmp 8]) rfl rfl rfl 2 rfl ?_
    refine sr ?_; refine oc (T := fun _ => False) (bx ti31 ?_ (hl := by simp only [List.length_cons, List.length_nil, Nat.reduceAdd]; rfl))
    refine oc (T := fun _ => False) (bx ti31 ?_ (hl := by simp only [List.length_cons, List.length_nil, Nat.reduceAdd]; rfl)); refine o1 (asg ?_); refine nx ?_; refine sr ?_; refine o1 (ldb ti31 ?_); refine o1 (mv ?_); refine o1 (mv ?_)
    refine oc (op_callo ca46 rfl rfl rfl rfl (sa) [0, 1] (bom (bom .nil)) rfl rfl rfl rfl (fid (fir (fir .nil))) (fun s ob' hq => ?_) (fun s ob' hq => ?_))
    rotate_left
    · obtain ⟨_, _, _, hq1, _⟩ := hq; cases hq1
    obtain ⟨n1, f1, q1, hq1, rfl, sh1⟩ := hq; cases hq1; refine ⟨_, _, _, _, _, rfl, rfl, rfl, rfl, rfl, ?_⟩; refine o1 (mv ?_); refine o1 (ex1 ?_); refine o1 (ex1 ?_)
    refine oc (T := fun _ => False) (alc ti80 ?_ (hl := by simp only [List.length_cons, List.length_nil, Nat.reduceAdd]; rfl)); refine oc (sto ti80 ?_); refine o1 (asg ?_); refine nx ?_; refine runs_seq ?_; refine kp [10, 9, 5, 4, 2, 3] ?_
    refine sr ?_; refine o1 (mv ?_); refine o1 (seq1 ?_); refine nx ?_; refine kp [21, 10, 9, 5, 4, 2, 3] ?_
    apply runs_cut_o (ι := ByteArray) (fun q => [(10, .d (.v (.string q)))]) (fun q => [.mapI z, .mapI o, .cells [.d (.v (.int .i64 ka)), .d (.v (.string na)), .d (.sl 3 (lvls aa))] 31, .cells [.d (.v (.int .i64 kb)), .d (.v (.string nb)), .d (.sl 3 (lvls ab))] 31]) [5, 4, 2, 3] (fun q => (a.has q ∨ b.has q) ∧ z q = none ∧ o q = none)
    case hk => exact rfl
    case h1 =>
      refine cdf (fun h2 => ?_) (fun h2 => ?_)
      · (try simp only [nrm, Int.reduceEq, Int.reduceNe, Int.reduceLT, Int.reduceLE] at h2)
        refine runs_skip ?_; refine seq_back ?_; refine back_c (q1) rfl ?_ ([0, 1, 2, 3]) ?_
        · exact ⟨.inl (sh1.no h2).1, (sh1.no h2).2⟩
        · refine mo ?_ (sly (sly (sly (sly (sly slz)))))
          repeat (first | exact boz | refine boc ?_ | refine bom ?_)
      (try simp only [nrm, Int.reduceEq, Int.reduceNe, Int.reduceLT, Int.reduceLE] at h2); refine sr ?_; refine oc (T := fun _ => False) (alc ti80 ?_ (hl := by simp only [List.length_cons, List.length_nil, Nat.reduceAdd]; rfl)); refine nx ?_
      refine sr ?_; refine o1 (ldb ti31 ?_); refine o1 (mv ?_); refine o1 (mv ?_); refine oc (op_callo ca46 rfl rfl rfl rfl (sb) [0, 1] (bom (bom .nil)) rfl rfl rfl rfl (fid (fir (fir .nil))) (fun s ob' hq => ?_) (fun s ob' hq => ?_))
      rotate_left
      · obtain ⟨_, _, _, hq1, _⟩ := hq; cases hq1
      obtain ⟨n2, f2, q2, hq1, rfl, sh2⟩ := hq; cases hq1; refine ⟨_, _, _, _, _, rfl, rfl, rfl, rfl, rfl, ?_⟩; refine o1 (mv ?_); refine o1 (ex1 ?_); refine o1 (ex1 ?_); refine oc (sto ti80 ?_); refine o1 (asg ?_); refine nx ?_
      refine kp [10, 11, 9, 5, 4, 2, 3] ?_; refine sr ?_; refine o1 (mv ?_); refine o1 (seq1 ?_); refine nx ?_; refine cdf (fun h5 => ?_) (fun h5 => ?_)
      · (try simp only [nrm, Int.reduceEq, Int.reduceNe, Int.reduceLT, Int.reduceLE] at h5)
        refine runs_skip ?_; refine seq_back ?_; refine back_c (q2) rfl ?_ ([0, 1, 2, 3]) ?_
        · exact ⟨.inr (sh2.no h5).1, (sh2.no h5).2⟩
        · refine mo ?_ (sly (sly (sly (sly (sly slz)))))
          repeat (first | exact boz | refine boc ?_ | refine bom ?_)
      (try simp only [nrm, Int.reduceEq, Int.reduceNe, Int.reduceLT, Int.reduceLE] at h5); refine runs_seq ?_; refine kp [11, 9] ?_
      replace h2 : q1 = .empty := h2
      replace h5 : q2 = .empty := h5
      subst h2 h5
      refine runs_region ?_; refine o1 (ldb ti80 ?_); refine o1 (ldb ti80 ?_)
      refine oc (op_callo ca47 rfl rfl rfl rfl (fleq_spec n1 n2 f1 f2 (a.params []) (fun p x e => a.has_params (sh1.b.sup p x e))) [4, 7] (bom (bom .nil)) rfl rfl rfl rfl (fir (fir .nil)) (fun s ob' hq => ?_) (fun s ob' hq => ?_))
      rotate_left
      · obtain ⟨_, hq1, _⟩ := hq; cases hq1
      obtain ⟨c, hq1, rfl, hF⟩ := hq; cases hq1; refine ⟨_, _, _, _, _, rfl, rfl, rfl, rfl, rfl, ?_⟩; refine o1 (asg ?_); refine nx ?_; refine runs_ret ?_; refine seq_ret ?_; refine fin_ret ?_
      refine fin_odl ⟨_, _, rfl, rfl, rfl⟩ rfl (.v (.bool c)) (by exact .refl _) ([0, 1]) ([.mapI z, .mapI o]) rfl rfl rfl ?_ ?_
      · repeat (first | exact boz | refine bom ?_)
      · exact ⟨c, rfl, rfl, fun e => sem_of_fle (sh1.ok rfl) (sh2.ok rfl) (hF.1 e), fun e => cex_of_not hz ho hd (sh1.ok rfl) (sh2.ok rfl) (fun h => by rw [hF.2 h] at e; cases e)⟩
    case h2 =>
      rintro q hcut
      try dsimp only at hcut
      refine kp [10, 5, 4, 2, 3] ?_; refine runs_seq ?_
      have hqU : q ∈ b.params (a.params []) := hcut.1.elim (fun h => b.params_mono (a.has_params h)) (fun h => b.has_params h)
      have hf0 := free_zero hqU hcut.2.1 hcut.2.2
      have hf1 := free_one hqU hcut.2.1 hcut.2.2
      refine runs_region ?_; refine o1 (mv ?_); refine o1 (mv ?_); refine oc (op_mapupd mt59 rfl rfl rfl rfl rfl rfl rfl rfl ?_); refine nx ?_; refine sr ?_; refine o1 (ldb ti31 ?_); refine o1 (ldb ti31 ?_); refine o1 (mv ?_); refine o1 (mv ?_)
      refine oc (op_callo ca29 rfl rfl rfl rfl (ih (updM z q 1) o (ones_upd hz) ho (disj_zero hd hcut.2.2) (by omega)) [0, 1] (bom (bom .nil)) rfl rfl rfl rfl (fid (fid (fir (fir .nil)))) (fun s ob' hq => ?_) (fun s ob' hq => ?_))
      rotate_left
      · obtain ⟨_, hq1, _⟩ := hq; cases hq1
      obtain ⟨c1, hq1, rfl, hA1⟩ := hq; cases hq1; refine ⟨_, _, _, _, _, rfl, rfl, rfl, rfl, rfl, ?_⟩; refine o1 (asg ?_); refine nx ?_; refine kp [12, 10, 5, 4, 2, 3] ?_; refine sr ?_; refine o1 (mv ?_); refine o1 (mv ?_)
      refine oc (op_delete mt59 rfl rfl rfl rfl rfl rfl rfl ?_); refine nx ?_; refine runs_seq ?_; refine runs_seq ?_
      rw [upd_del hcut.2.1]
      refine runs_region ?_; refine o1 (mv ?_); refine o1 (f_not ?_); refine nx ?_; refine cd (fun h10 => ?_) (fun h10 => ?_)
      · (try simp only [nrm, Int.reduceEq, Int.reduceNe, Int.reduceLT, Int.reduceLE] at h10)
        refine kp [] ?_; refine sr ?_; refine o1 (asg ?_); refine nx ?_; refine runs_ret ?_; refine seq_ret ?_; refine fin_ret ?_
        refine fin_odl ⟨_, _, rfl, rfl, rfl⟩ rfl (.v (.bool false)) (by exact .refl _) ([0, 1]) ([.mapI z, .mapI o]) rfl rfl rfl ?_ ?_
        · repeat (first | exact boz | refine bom ?_)
        · exact ⟨false, rfl, rfl, fun e => (by cases e), fun _ => (hA1.no h10).zero⟩
      (try simp only [nrm, Int.reduceEq, Int.reduceNe, Int.reduceLT, Int.reduceLE] at h10); refine runs_skip ?_; refine seq_normal ?_; refine kp [10, 5, 4, 2, 3] ?_; refine sr ?_; refine o1 (mv ?_); refine o1 (mv ?_)
      refine oc (op_mapupd mt59 rfl rfl rfl rfl rfl rfl rfl rfl ?_); refine nx ?_; refine sr ?_; refine o1 (ldb ti31 ?_); refine o1 (ldb ti31 ?_); refine o1 (mv ?_); refine o1 (mv ?_)
      refine oc (op_callo ca29 rfl rfl rfl rfl (ih z (updM o q 1) hz (ones_upd ho) (disj_one hd hcut.2.1) (by omega)) [0, 1] (bom (bom .nil)) rfl rfl rfl rfl (fid (fid (fir (fir .nil)))) (fun s ob' hq => ?_) (fun s ob' hq => ?_))
      rotate_left
      · obtain ⟨_, hq1, _⟩ := hq; cases hq1
      obtain ⟨c2, hq1, rfl, hA2⟩ := hq; cases hq1; refine ⟨_, _, _, _, _, rfl, rfl, rfl, rfl, rfl, ?_⟩; refine o1 (asg ?_); refine nx ?_; refine kp [12, 10, 3] ?_; refine sr ?_; refine o1 (mv ?_); refine o1 (mv ?_)
      refine oc (op_delete mt59 rfl rfl rfl rfl rfl rfl rfl ?_); refine nx ?_; refine runs_seq ?_; refine kp [12] ?_
      rw [upd_del hcut.2.2]
      refine runs_region ?_; refine o1 (mv ?_); refine o1 (asg ?_); refine nx ?_; refine runs_ret ?_; refine fin_ret ?_; refine fin_odl ⟨_, _, rfl, rfl, rfl⟩ rfl (.v (.bool c2)) (by exact .refl _) ([0, 1]) ([.mapI z, .mapI o]) rfl rfl rfl ?_ ?_
      · repeat (first | exact boz | refine bom ?_)
      · exact ⟨c2, rfl, rfl, fun e => (sem_split (q := q) a b).2 ⟨hA1.yes h10, hA2.yes e⟩, fun e => (hA2.no e).one⟩

theorem pLeq_spec (a b : Lev) (hna : nmL a) (hnb : nmL b) (hsa : a.size ≤ 1099511627776) (hsb : b.size ≤ 1099511627776) :
    TriD Tryd.prog gl 13 [a.toLvl.d, b.toLvl.d] (· = .v (.bool (semB a b))) := by
  have hl := leq_spec (gl := gl) a b hna hnb hsa hsb (freeN noM noM (b.params (a.params [])) + 1) noM noM (fun p m e => by cases e) (fun p m e => by cases e) (fun q h => rfl) (Nat.lt_succ_self _)
  unfold noM at hl
  obtain ⟨ka, na, aa, hXa⟩ := Lvl.case a.toLvl
  obtain ⟨kb, nb, ab, hXb⟩ := Lvl.case b.toLvl
  rw [hXa, hXb] at hl ⊢
  refine triD_of_runs Tryd.func13 rfl Tryd.ntmps13 (rs := [.tmp 4]) rfl rfl rfl ?_
  refine sr ?_; refine oc (T := fun _ => False) (bx ti31 ?_ (hl := by simp only [List.length_cons, List.length_nil, Nat.reduceAdd]; rfl))
  refine oc (T := fun _ => False) (bx ti31 ?_ (hl := by simp only [List.length_cons, List.length_nil, Nat.reduceAdd]; rfl)); refine o1 (asg ?_); refine nx ?_; refine sr ?_; refine o1 (ldb ti31 ?_); refine o1 (ldb ti31 ?_)
  refine oc (T := fun _ => False) (op_mapmake rfl rfl rfl (by simp only [List.length_cons, List.length_nil, Nat.reduceAdd]; rfl) rfl ?_)
  refine oc (T := fun _ => False) (op_mapmake rfl rfl rfl (by simp only [List.length_cons, List.length_nil, Nat.reduceAdd]; rfl) rfl ?_)
  refine oc (op_callo ca29 rfl rfl rfl rfl (hl) [2, 3] (bom (bom .nil)) rfl rfl rfl rfl (fid (fid (fir (fir .nil)))) (fun s ob' hq => ?_) (fun s ob' hq => ?_))
  rotate_left
  · obtain ⟨_, hq1, _⟩ := hq; cases hq1
  obtain ⟨c, hq1, rfl, hA⟩ := hq; cases hq1; obtain rfl := LeqA.eq hA; refine ⟨_, _, _, _, _, rfl, rfl, rfl, rfl, rfl, ?_⟩; refine o1 (asg ?_); refine nx ?_; refine runs_ret ?_; refine fin_ret ?_; refine fin_d1 rfl rfl ?_
  rfl
theorem pSame_spec (a b : Lev) (hna : nmL a) (hnb : nmL b) (hsa : a.size ≤ 1099511627776) (hsb : b.size ≤ 1099511627776) :
    TriD Tryd.prog gl 14 [a.toLvl.d, b.toLvl.d] (· = .v (.bool (semB a b && semB b a))) := by
  have h1 := pLeq_spec (gl := gl) a b hna hnb hsa hsb
  have h2 := pLeq_spec (gl := gl) b a hnb hna hsb hsa
  obtain ⟨ka, na, aa, hXa⟩ := Lvl.case a.toLvl
  obtain ⟨kb, nb, ab, hXb⟩ := Lvl.case b.toLvl
  rw [hXa, hXb] at h1 h2 ⊢
  refine triD_of_runs Tryd.func14 rfl Tryd.ntmps14 (rs := [.tmp 4]) rfl rfl rfl ?_
  refine sr ?_; refine oc (T := fun _ => False) (bx ti31 ?_ (hl := by simp only [List.length_cons, List.length_nil, Nat.reduceAdd]; rfl))
  refine oc (T := fun _ => False) (bx ti31 ?_ (hl := by simp only [List.length_cons, List.length_nil, Nat.reduceAdd]; rfl)); refine o1 (asg ?_); refine nx ?_; refine sr ?_; refine o1 (ldb ti31 ?_); refine o1 (ldb ti31 ?_)
  refine oc (cv ca13 rfl rfl (h1) (fid (fid .nil)) ?_); refine o1 (mv ?_)
  apply ops_and (yt := 11) (d := 8) 3 rfl rfl rfl (.none rfl) rfl rfl
  case h1 =>
    intro hb7 hK
    have hc := hb7; (try simp only [nrm, Int.reduceEq, Int.reduceNe, Int.reduceLT, Int.reduceLE] at hc)
    refine gye ?_ (hbw := by exact hb7); refine o1 (ldb ti31 ?_); refine gye ?_ (hbw := by exact hb7); refine o1 (ldb ti31 ?_); refine gye ?_ (hbw := by exact hb7); refine oc (cv ca13 rfl rfl (h2) (fid (fid .nil)) ?_); exact hK [_, _, _] rfl rfl
  case h2 =>
    intro hb7 hK; refine gno ?_ (hbw := by exact hb7); refine gno ?_ (hbw := by exact hb7); refine gno ?_ (hbw := by exact hb7); exact hK [_, _, _] rfl
  refine o1 (asg ?_); refine nx ?_; refine runs_ret ?_; refine fin_ret ?_; refine fin_d1 rfl rfl ?_
  rfl
end Go.Proofs.YtafhnnbbfgoacaaDoor
