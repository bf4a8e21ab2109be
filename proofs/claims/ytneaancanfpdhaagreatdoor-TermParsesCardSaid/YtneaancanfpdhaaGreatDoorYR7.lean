/-
  What is proved here: contracts of the reference's reader: level, ParseLevel.
-/
import Derived.Test.YtneaancanfpdhaaGreatDoorYR6
set_option linter.unusedSimpArgs false
set_option linter.unusedVariables false
namespace Go.Proofs.YtneaancanfpdhaaGreatDoor
open Go Go.Vd Go.RowKit
attribute [local irreducible] Runs OpsR OpR FloatR AnyR
variable {gl : Nat → List D}

theorem level_spec (s : ByteArray) (hs : s.size ≤ 1099511627776) : ∀ (n : Nat) (r : RS), r.p ≤ s.size → s.size - r.p < n →
    Tri Tryz.prog gl 60 [rdO s r] [.blk 0 0] fun out ob' => out = .ret (.d (levelR n s r).1.d) ∧ ob' = [rdO s (levelR n s r).2] := by
  intro n
  induction n with
  | zero => intro r _ h; omega
  | succ n ih =>
    intro r hp hn
    have hat := tokR_at (s := s) hp
    obtain ⟨p, f⟩ := r
    simp only at hat hp hn
    cases f with
    | some a =>
      refine triS_of_runs Tryz.func60 rfl Tryz.ntmps60 (rs := [.cell 2 45]) rfl rfl rfl 1 rfl ?_
      refine sr ?_; refine oc (T := fun _ => False) (alc ti45 ?_ (hl := by simp only [List.length_cons, List.length_nil, Nat.reduceAdd]; rfl)); refine nx ?_; refine sr ?_; refine o1 (mv ?_)
      refine oc (ck ca82 rfl rfl (token_spec s p (fcode (some a)) (fat (some a)) hs hp) [0] rfl (boc .nil) (fir .nil) ?_); refine o1 (mv ?_); refine o1 (ex2 ?_); refine o1 (ex2 ?_); refine o1 (ex2 ?_); refine o1 (asg ?_); refine o1 (asg ?_)
      refine o1 (asg ?_); refine nx ?_; refine kp [4, 3, 2, 0] ?_; refine sr ?_; refine o1 (mv ?_); refine oc (cv ca97 rfl rfl (isName_spec (tokR s p).1) (fir .nil) ?_); refine o1 (asg ?_); refine nx ?_; refine runs_seq ?_; refine runs_block ?_
      refine sr ?_; refine o1 (mv ?_); refine o1 (ncb ?_); refine o1 (fdb ti71 ?_); refine o1 (fdb ti33 ?_); refine o1 (ldb ti3 ?_); refine o1 (ine ?_); refine o1 (asg ?_); refine nx ?_; refine cdf (fun h4 => ?_) (fun h4 => ?_)
      · simp only [nrm, Int.reduceEq, Int.reduceNe, Int.reduceLT, Int.reduceLE, fcode, fat] at h4
      (try simp only [nrm, Int.reduceEq, Int.reduceNe, Int.reduceLT, Int.reduceLE, fcode, fat] at h4); refine runs_skip ?_; refine inb_normal ?_; refine seq_normal ?_; refine kp [2] ?_; refine sr ?_; refine o1 (bld ti45 ?_)
      refine oc (sto ti45 ?_); refine nx ?_; refine runs_ret ?_; refine fin_ret ?_
      refine fin_odl ⟨_, _, rfl, (from_cell rfl rfl ti45 rfl rfl rfl rfl), rfl⟩ rfl (zeroL.d) (by repeat (first | exact .refl _ | exact .nil | refine .agg ?_ | refine .cons ?_ ?_)) ([0]) ([rdO s ⟨p, some a⟩]) rfl rfl rfl ?_ ?_
      · repeat (first | exact boz | refine boc ?_)
      · exact ⟨rfl, rfl⟩
    | none =>
      have hn1 := nextR_le (s := s) (r := ⟨p, none⟩) hp
      have hn2 := nextR_le (s := s) (r := (nextR s ⟨p, none⟩).2) hn1.2
      have hl1 := levelR_le (s := s) n (r := (nextR s (nextR s ⟨p, none⟩).2).2) hn2.2
      have hl2 := levelR_le (s := s) n (r := (levelR n s (nextR s (nextR s ⟨p, none⟩).2).2).2) hl1.2
      refine triS_of_runs Tryz.func60 rfl Tryz.ntmps60 (rs := [.cell 2 45]) rfl rfl rfl 1 rfl ?_
      refine sr ?_; refine oc (T := fun _ => False) (alc ti45 ?_ (hl := by simp only [List.length_cons, List.length_nil, Nat.reduceAdd]; rfl)); refine nx ?_; refine sr ?_; refine o1 (mv ?_)
      refine oc (ck ca82 rfl rfl (token_spec s p (fcode none) (fat none) hs hp) [0] rfl (boc .nil) (fir .nil) ?_); refine o1 (mv ?_); refine o1 (ex2 ?_); refine o1 (ex2 ?_); refine o1 (ex2 ?_); refine o1 (asg ?_); refine o1 (asg ?_)
      refine o1 (asg ?_); refine nx ?_; refine kp [4, 3, 2, 0] ?_; refine sr ?_; refine o1 (mv ?_); refine oc (cv ca97 rfl rfl (isName_spec (tokR s p).1) (fir .nil) ?_); refine o1 (asg ?_); refine nx ?_; refine runs_seq ?_; refine runs_block ?_
      refine sr ?_; refine o1 (mv ?_); refine o1 (ncb ?_); refine o1 (fdb ti71 ?_); refine o1 (fdb ti33 ?_); refine o1 (ldb ti3 ?_); refine o1 (ine ?_); refine o1 (asg ?_); refine nx ?_; refine cd (fun h4 => ?_) (fun h4 => ?_)
      · simp only [nrm, Int.reduceEq, Int.reduceNe, Int.reduceLT, Int.reduceLE, fcode, fat] at h4
      (try simp only [nrm, Int.reduceEq, Int.reduceNe, Int.reduceLT, Int.reduceLE, fcode, fat] at h4); refine kp [6, 4, 3, 2, 0] ?_; refine sr ?_; refine o1 (mv ?_); refine o1 (seq1 ?_); refine o1 (asg ?_); refine nx ?_
      refine cd (fun h5 => ?_) (fun h5 => ?_)
      · (try simp only [nrm, Int.reduceEq, Int.reduceNe, Int.reduceLT, Int.reduceLE, fcode, fat] at h5)
        refine kp [2, 0] ?_; refine runs_region ?_; refine o1 (mv ?_); refine oc (ck ca84 rfl rfl (next_spec s ⟨p, none⟩ hs hp) [0] rfl (boc .nil) (fir .nil) ?_); refine ops_nil ?_; refine inb_normal ?_; refine seq_normal ?_; refine sr ?_
        refine o1 (bld ti45 ?_); refine oc (sto ti45 ?_); refine nx ?_; refine runs_ret ?_; refine fin_ret ?_
        refine fin_odl ⟨_, _, rfl, (from_cell rfl rfl ti45 rfl rfl rfl rfl), rfl⟩ rfl (zeroL.d) (by repeat (first | exact .refl _ | exact .nil | refine .agg ?_ | refine .cons ?_ ?_)) ([0]) ([rdO s (nextR s ⟨p, none⟩).2]) rfl rfl rfl ?_ ?_
        · repeat (first | exact boz | refine boc ?_)
        · rw [levelR_zero h5]; exact ⟨rfl, rfl⟩
      (try simp only [nrm, Int.reduceEq, Int.reduceNe, Int.reduceLT, Int.reduceLE, fcode, fat] at h5); refine sr ?_; refine o1 (mv ?_); refine o1 (asg ?_); refine nx ?_; refine cd (fun h7 => ?_) (fun h7 => ?_)
      · (try simp only [nrm, Int.reduceEq, Int.reduceNe, Int.reduceLT, Int.reduceLE, fcode, fat] at h7)
        refine kp [3, 2, 0] ?_; refine sr ?_; refine o1 (mv ?_); refine oc (ck ca84 rfl rfl (next_spec s ⟨p, none⟩ hs hp) [0] rfl (boc .nil) (fir .nil) ?_); refine nx ?_; refine sr ?_; refine o1 (mv ?_); refine o1 (bld ti45 ?_)
        refine oc (sto ti45 ?_); refine nx ?_; refine runs_ret ?_; refine inb_ret ?_; refine seq_ret ?_; refine fin_ret ?_
        refine fin_odl ⟨_, _, rfl, (from_cell rfl rfl ti45 rfl rfl rfl rfl), rfl⟩ rfl ((Lvl.mk 4 (tokR s p).1 []).d) (by repeat (first | exact .refl _ | exact .nil | refine .agg ?_ | refine .cons ?_ ?_)) ([0]) ([rdO s (nextR s ⟨p, none⟩).2]) rfl rfl rfl ?_ ?_
        · repeat (first | exact boz | refine boc ?_)
        · rw [levelR_name h5 h7]; exact ⟨rfl, rfl⟩
      (try simp only [nrm, Int.reduceEq, Int.reduceNe, Int.reduceLT, Int.reduceLE, fcode, fat] at h7); refine kp [4, 3, 2, 0] ?_; refine sr ?_; refine o1 (mv ?_); refine o1 (seq1 ?_); refine o1 (asg ?_); refine nx ?_
      refine cdf (fun h10 => ?_) (fun h10 => ?_)
      · (try simp only [nrm, Int.reduceEq, Int.reduceNe, Int.reduceLT, Int.reduceLE, fcode, fat] at h10)
        refine kp [4, 2, 0] ?_; refine runs_region ?_; refine o1 (mv ?_); refine o1 (mv ?_); refine oc (ck ca83 rfl rfl (fail_spec s (tokR s p).2.1 ⟨p, none⟩) [0] rfl (boc .nil) (fir (fir .nil)) ?_); refine ops_nil ?_; refine inb_normal ?_
        refine seq_normal ?_; refine kp [2] ?_; refine sr ?_; refine o1 (bld ti45 ?_); refine oc (sto ti45 ?_); refine nx ?_; refine runs_ret ?_; refine fin_ret ?_
        refine fin_odl ⟨_, _, rfl, (from_cell rfl rfl ti45 rfl rfl rfl rfl), rfl⟩ rfl (zeroL.d) (by repeat (first | exact .refl _ | exact .nil | refine .agg ?_ | refine .cons ?_ ?_)) ([0]) ([rdO s ((RS.mk p none).fail (tokR s p).2.1)]) rfl rfl rfl ?_ ?_
        · repeat (first | exact boz | refine boc ?_)
        · rw [levelR_else h5 h7 h10]; exact ⟨rfl, rfl⟩
      (try simp only [nrm, Int.reduceEq, Int.reduceNe, Int.reduceLT, Int.reduceLE, fcode, fat] at h10); refine kp [2, 0] ?_; refine sr ?_; refine o1 (mv ?_)
      refine oc (ck ca84 rfl rfl (next_spec s ⟨p, none⟩ hs hp) [0] rfl (boc .nil) (fir .nil) ?_); refine nx ?_; refine sr ?_; refine o1 (mv ?_)
      refine oc (ck ca82 rfl rfl (token_spec s (nextR s ⟨p, none⟩).2.p (fcode (nextR s ⟨p, none⟩).2.f) (fat (nextR s ⟨p, none⟩).2.f) hs hn1.2) [0] rfl (boc .nil) (fir .nil) ?_); refine o1 (mv ?_); refine o1 (ex2 ?_); refine o1 (ex2 ?_)
      refine o1 (ex2 ?_); refine o1 (asg ?_); refine o1 (asg ?_); refine o1 (asg ?_); refine nx ?_; refine kp [8, 7, 2, 0] ?_; refine sr ?_; refine o1 (asg ?_); refine nx ?_; refine runs_seq ?_; refine sr ?_; refine o1 (mv ?_); refine nx ?_
      refine kp [52, 10, 8, 2, 0] ?_
      apply runs_cut_c (ι := Unit) (fun _ => [(10, int (kindR (tokR s (nextR s ⟨p, none⟩).2.p).1))]) [8, 2, 0] (fun _ => True)
      case hk => exact rfl
      case h1 =>
        refine runs_block ?_; refine sr ?_; refine o1 (seq1 ?_); refine o1 (asg ?_); refine nx ?_; refine cd (fun h15 => ?_) (fun h15 => ?_)
        · (try simp only [nrm, Int.reduceEq, Int.reduceNe, Int.reduceLT, Int.reduceLE, fcode, fat] at h15)
          refine kp [8, 2, 0] ?_; refine runs_region ?_; refine o1 (asg ?_); refine ops_nil ?_; refine inb_normal ?_; refine seq_back ?_; refine back_i (()) rfl ?_ ?_
          · trivial
          · refine mo ?_ (slx rfl (by exact Fit.of_eq (by simp only [kindR]; simp_all <;> rfl)) (sly (sly (sly slz))))
            repeat (first | exact boz | refine boc ?_)
        (try simp only [nrm, Int.reduceEq, Int.reduceNe, Int.reduceLT, Int.reduceLE, fcode, fat] at h15); refine sr ?_; refine o1 (seq1 ?_); refine o1 (asg ?_); refine nx ?_; refine cd (fun h17 => ?_) (fun h17 => ?_)
        · (try simp only [nrm, Int.reduceEq, Int.reduceNe, Int.reduceLT, Int.reduceLE, fcode, fat] at h17)
          refine kp [8, 2, 0] ?_; refine runs_region ?_; refine o1 (asg ?_); refine ops_nil ?_; refine inb_normal ?_; refine seq_back ?_; refine back_i (()) rfl ?_ ?_
          · trivial
          · refine mo ?_ (slx rfl (by exact Fit.of_eq (by simp only [kindR]; simp_all <;> rfl)) (sly (sly (sly slz))))
            repeat (first | exact boz | refine boc ?_)
        (try simp only [nrm, Int.reduceEq, Int.reduceNe, Int.reduceLT, Int.reduceLE, fcode, fat] at h17); refine kp [52, 10, 8, 2, 0] ?_; refine sr ?_; refine o1 (seq1 ?_); refine o1 (asg ?_); refine nx ?_; refine cdf (fun h19 => ?_) (fun h19 => ?_)
        · (try simp only [nrm, Int.reduceEq, Int.reduceNe, Int.reduceLT, Int.reduceLE, fcode, fat] at h19)
          refine runs_skip ?_; refine inb_normal ?_; refine seq_back ?_; refine back_i (()) rfl ?_ ?_
          · trivial
          · refine mo ?_ (slx rfl (by exact Fit.of_eq (by simp only [kindR]; simp_all <;> rfl)) (sly (sly (sly slz))))
            repeat (first | exact boz | refine boc ?_)
        (try simp only [nrm, Int.reduceEq, Int.reduceNe, Int.reduceLT, Int.reduceLE, fcode, fat] at h19); refine kp [8, 2, 0] ?_; refine runs_region ?_; refine o1 (asg ?_); refine ops_nil ?_; refine inb_normal ?_; refine seq_back ?_
        refine back_i (()) rfl ?_ ?_
        · trivial
        · refine mo ?_ (slx rfl (by exact Fit.of_eq (by simp only [kindR]; simp_all <;> rfl)) (sly (sly (sly slz))))
          repeat (first | exact boz | refine boc ?_)
      case h2 =>
        rintro _ hcut
        try dsimp only at hcut
        refine kp [10, 8, 2, 0] ?_; refine runs_seq ?_; refine sr ?_; refine o1 (mv ?_); refine o1 (ieq ?_); refine nx ?_; refine cd (fun h21 => ?_) (fun h21 => ?_)
        · (try simp only [nrm, Int.reduceEq, Int.reduceNe, Int.reduceLT, Int.reduceLE, fcode, fat] at h21)
          refine sr ?_; refine o1 (mv ?_); refine o1 (mv ?_); refine oc (ck ca83 rfl rfl (fail_spec s (tokR s (nextR s ⟨p, none⟩).2.p).2.1 (nextR s ⟨p, none⟩).2) [0] rfl (boc .nil) (fir (fir .nil)) ?_); refine nx ?_; refine kp [2] ?_; refine sr ?_
          refine o1 (bld ti45 ?_); refine oc (sto ti45 ?_); refine nx ?_; refine runs_ret ?_; refine seq_ret ?_; refine inb_ret ?_; refine seq_ret ?_; refine fin_ret ?_
          refine fin_odl ⟨_, _, rfl, (from_cell rfl rfl ti45 rfl rfl rfl rfl), rfl⟩ rfl (zeroL.d) (by repeat (first | exact .refl _ | exact .nil | refine .agg ?_ | refine .cons ?_ ?_)) ([0]) ([rdO s ((nextR s ⟨p, none⟩).2.fail (tokR s (nextR s ⟨p, none⟩).2.p).2.1)]) rfl rfl rfl ?_ ?_
          · repeat (first | exact boz | refine boc ?_)
          · rw [levelR_kind h5 h7 h10 h21]; exact ⟨rfl, rfl⟩
        (try simp only [nrm, Int.reduceEq, Int.reduceNe, Int.reduceLT, Int.reduceLE, fcode, fat] at h21); refine runs_skip ?_; refine seq_normal ?_; refine sr ?_; refine o1 (mv ?_)
        refine oc (ck ca84 rfl rfl (next_spec s (nextR s ⟨p, none⟩).2 hs hn1.2) [0] rfl (boc .nil) (fir .nil) ?_); refine nx ?_; refine kp [10, 2, 0] ?_; refine sr ?_; refine o1 (mv ?_); refine o1 (bld ti45 ?_)
        refine oc (T := fun _ => False) (alc ti45 ?_ (hl := by simp only [List.length_cons, List.length_nil, Nat.reduceAdd]; rfl)); refine oc (sto ti45 ?_); refine nx ?_; refine runs_seq ?_
        have hne : (tokR s p).1 ≠ .empty := by rw [h10]; decide
        have hsz1 : (tokR s p).1.size = 1 := by rw [h10]; rfl
        have hnx := nextR_ok hne
        have hpr : p < (nextR s ⟨p, none⟩).2.p := by rw [hnx]; simp only; omega
        have hpr2 := hn2.1
        obtain ⟨k1, s1, a1, hX1⟩ := Lvl.case (levelR n s (nextR s (nextR s ⟨p, none⟩).2).2).1; obtain ⟨k2, s2, a2, hX2⟩ := Lvl.case (levelR n s (levelR n s (nextR s (nextR s ⟨p, none⟩).2).2).2).1; refine a_start ?_ (hm := by exact mixed)
        refine A1 0 rfl (fdb ti45 ⟨_, rfl, ?_⟩); refine A1 1 rfl (ldb ti28 ⟨_, rfl, ?_⟩); refine A1 2 rfl (mv ⟨_, rfl, ?_⟩)
        refine A2 3 rfl (op_callo ca60 rfl rfl rfl rfl (ih (nextR s (nextR s ⟨p, none⟩).2).2 hn2.2 (by omega)) [0] (boc .nil) rfl rfl rfl rfl (fir .nil) (fun s ob' hq => ?_) (fun s ob' hq => ?_))
        rotate_left
        · first | exact hq.elim | cases hq.1
        obtain ⟨hq1, rfl⟩ := hq; rw [hX1] at hq1; cases hq1; refine ⟨_, _, _, _, _, rfl, rfl, rfl, rfl, rfl, ?_⟩
        refine A2 (T := fun _ => False) 4 rfl (op_lit sl28 [.tmp 72] ti45 rfl rfl rfl rfl rfl rfl rfl (by decide) (by decide) (by decide) (by simp only [List.length_cons, List.length_nil, Nat.reduceAdd]; rfl) rfl ?_)
        refine A2 (T := fun _ => False) 5 rfl (op_append_nil sl28 rfl rfl rfl rfl rfl rfl (by simp only [List.length_cons, List.length_nil, Nat.reduceAdd]; rfl) rfl rfl (by decide) (by simp) (by first | decide | (simp only [maxLen, List.length_cons, List.length_nil, List.length_append, List.length_map]; omega) | omega) rfl rfl rfl ?_)
        refine A1 6 rfl (fdb ti45 ⟨_, rfl, ?_⟩); refine A2 7 rfl (sto ti28 ?_); refine a_end ?_; refine seq_normal ?_; refine runs_seq ?_; refine kp [11, 10, 2, 0] ?_; refine sr ?_; refine o1 (mv ?_); refine o1 (ine ?_); refine nx ?_
        refine cdf (fun h27 => ?_) (fun h27 => ?_)
        · (try simp only [nrm, Int.reduceEq, Int.reduceNe, Int.reduceLT, Int.reduceLE, fcode, fat] at h27)
          refine runs_skip ?_; refine seq_normal ?_; refine sr ?_; refine o1 (mv ?_); refine oc (ck ca88 rfl rfl (take_spec s ⟨#[41]⟩ (levelR n s (nextR s (nextR s ⟨p, none⟩).2).2).2 hs hl1.2) [0] rfl (boc .nil) (fir (fir .nil)) ?_); refine nx ?_
          refine kp [11, 2] ?_; refine sr ?_; refine o1 (ldb ti45 ?_); refine oc (sto ti45 ?_); refine nx ?_; refine runs_ret ?_; refine inb_ret ?_; refine seq_ret ?_; refine fin_ret ?_
          refine fin_odl ⟨_, _, rfl, (from_cell rfl rfl ti45 rfl rfl rfl rfl), rfl⟩ rfl ((Lvl.mk (kindR (tokR s (nextR s ⟨p, none⟩).2.p).1) .empty [Lvl.mk k1 s1 a1]).d) (by exact .refl _) ([0]) ([rdO s (takeR s ⟨#[41]⟩ (levelR n s (nextR s (nextR s ⟨p, none⟩).2).2).2)]) rfl rfl rfl ?_ ?_
          · repeat (first | exact boz | refine boc ?_)
          · rw [levelR_one h5 h7 h10 h27, hX1, h27]; exact ⟨rfl, rfl⟩
        (try simp only [nrm, Int.reduceEq, Int.reduceNe, Int.reduceLT, Int.reduceLE, fcode, fat] at h27); refine a_start ?_ (hm := by exact mixed); refine A1 0 rfl (fdb ti45 ⟨_, rfl, ?_⟩); refine A1 1 rfl (ldb ti28 ⟨_, rfl, ?_⟩)
        refine A1 2 rfl (mv ⟨_, rfl, ?_⟩)
        refine A2 3 rfl (op_callo ca60 rfl rfl rfl rfl (ih (levelR n s (nextR s (nextR s ⟨p, none⟩).2).2).2 hl1.2 (by have := hl1.1; omega)) [0] (boc .nil) rfl rfl rfl rfl (fir .nil) (fun s ob' hq => ?_) (fun s ob' hq => ?_))
        rotate_left
        · first | exact hq.elim | cases hq.1
        obtain ⟨hq1, rfl⟩ := hq; rw [hX2] at hq1; cases hq1; refine ⟨_, _, _, _, _, rfl, rfl, rfl, rfl, rfl, ?_⟩
        refine A2 (T := fun _ => False) 4 rfl (op_lit sl28 [.tmp 81] ti45 rfl rfl rfl rfl rfl rfl rfl (by decide) (by decide) (by decide) (by simp only [List.length_cons, List.length_nil, Nat.reduceAdd]; rfl) rfl ?_)
        refine A2 5 rfl (op_append sl28 rfl rfl rfl rfl rfl rfl rfl (.inl rfl) (by decide) (by simp) (by first | decide | (simp only [maxLen, List.length_cons, List.length_nil, List.length_append, List.length_map]; omega) | omega) rfl rfl rfl ?_)
        refine A1 6 rfl (fdb ti45 ⟨_, rfl, ?_⟩); refine A2 7 rfl (sto ti28 ?_); refine a_end ?_; refine seq_normal ?_; refine kp [11, 2, 0] ?_; refine sr ?_; refine o1 (mv ?_)
        refine oc (ck ca88 rfl rfl (take_spec s ⟨#[41]⟩ (levelR n s (levelR n s (nextR s (nextR s ⟨p, none⟩).2).2).2).2 hs hl2.2) [0] rfl (boc .nil) (fir (fir .nil)) ?_); refine nx ?_; refine sr ?_; refine o1 (ldb ti45 ?_); refine oc (sto ti45 ?_)
        refine nx ?_; refine runs_ret ?_; refine inb_ret ?_; refine seq_ret ?_; refine fin_ret ?_
        refine fin_odl ⟨_, _, rfl, (from_cell rfl rfl ti45 rfl rfl rfl rfl), rfl⟩ rfl ((Lvl.mk (kindR (tokR s (nextR s ⟨p, none⟩).2.p).1) .empty [Lvl.mk k1 s1 a1, Lvl.mk k2 s2 a2]).d) (by exact .refl _) ([0]) ([rdO s (takeR s ⟨#[41]⟩ (levelR n s (levelR n s (nextR s (nextR s ⟨p, none⟩).2).2).2).2)]) rfl rfl rfl ?_ ?_
        · repeat (first | exact boz | refine boc ?_)
        · rw [levelR_two h5 h7 h10 h21 h27, hX1, hX2]; exact ⟨rfl, rfl⟩

theorem parseLevel_spec (s : ByteArray) : TriD Tryz.prog gl 24 [.v (.string s)] (· = .tup [(parseR s).1.d, .agg [.v (.int .i64 (parseR s).2.1), .v (.int .i64 (parseR s).2.2)]]) := by
  refine triD_of_runs Tryz.func24 rfl Tryz.ntmps24 (rs := [.cell 2 45, .cell 3 33]) rfl rfl rfl ?_
  refine sr ?_; refine oc (T := fun _ => False) (alc ti45 ?_ (hl := by simp only [List.length_cons, List.length_nil, Nat.reduceAdd]; rfl))
  refine oc (T := fun _ => False) (alc ti33 ?_ (hl := by simp only [List.length_cons, List.length_nil, Nat.reduceAdd]; rfl)); refine nx ?_; refine runs_seq ?_; refine sr ?_; refine o1 (mv ?_); refine o1 (le3 ut9 ?_); refine o1 (igt ?_)
  refine nx ?_; refine cd (fun h1 => ?_) (fun h1 => ?_)
  · (try simp only [nrm, Int.reduceEq, Int.reduceNe, Int.reduceLT, Int.reduceLE] at h1)
    refine kp [3, 2] ?_; refine sr ?_; refine o1 (bld ti45 ?_); refine o1 (bld ti33 ?_); refine oc (sto ti45 ?_); refine oc (sto ti33 ?_); refine nx ?_; refine runs_ret ?_; refine seq_ret ?_; refine fin_ret ?_
    refine fin_dl ⟨_, _, rfl, (from_cell rfl rfl ti45 rfl rfl rfl rfl), ⟨_, _, rfl, (from_cell rfl rfl ti33 rfl rfl rfl rfl), rfl⟩⟩ rfl (.tup [zeroL.d, .agg [.v (.int .i64 2), .v (.int .i64 0)]]) (by repeat (first | exact .refl _ | exact .nil | refine .agg ?_ | refine .tup ?_ | refine .cons ?_ ?_)) ?_
    unfold parseR; rw [if_pos (by omega)]
  (try simp only [nrm, Int.reduceEq, Int.reduceNe, Int.reduceLT, Int.reduceLE] at h1); refine runs_skip ?_; refine seq_normal ?_; refine sr ?_; refine o1 (mv ?_); refine o1 (bld ti71 ?_)
  refine oc (T := fun _ => False) (bx ti71 ?_ (hl := by simp only [List.length_cons, List.length_nil, Nat.reduceAdd]; rfl)); refine o1 (asg ?_); refine nx ?_; refine runs_seq ?_; refine kp [4, 3, 2] ?_
  obtain ⟨k1, s1, a1, hX⟩ := Lvl.case (levelR (s.size + 1) s ⟨0, none⟩).1
  have hs : s.size ≤ 1099511627776 := by omega
  have hle := levelR_le (s := s) (s.size + 1) (r := ⟨0, none⟩) (Nat.zero_le _)
  refine runs_region ?_; refine o1 (mv ?_); refine oc (op_callo ca60 rfl rfl rfl rfl (level_spec s hs (s.size + 1) ⟨0, none⟩ (Nat.zero_le _) (by simp)) [2] (boc .nil) rfl rfl rfl rfl (fir .nil) (fun s ob' hq => ?_) (fun s ob' hq => ?_))
  rotate_left
  · first | exact hq.elim | cases hq.1
  obtain ⟨hq1, rfl⟩ := hq; rw [hX] at hq1; cases hq1; refine ⟨_, _, _, _, _, rfl, rfl, rfl, rfl, rfl, ?_⟩; refine oc (T := fun _ => False) (alc ti45 ?_ (hl := by simp only [List.length_cons, List.length_nil, Nat.reduceAdd]; rfl))
  refine oc (sto ti45 ?_); refine nx ?_; refine sr ?_; refine o1 (mv ?_); refine oc (ck ca43 rfl rfl (done_spec s (levelR (s.size + 1) s ⟨0, none⟩).2 hs hle.2) [2] rfl (boc .nil) (fir .nil) ?_)
  refine oc (T := fun _ => False) (alc ti33 ?_ (hl := by simp only [List.length_cons, List.length_nil, Nat.reduceAdd]; rfl)); refine oc (sto ti33 ?_); refine nx ?_; refine runs_seq ?_; refine kp [6, 5, 3, 2] ?_; refine sr ?_
  refine o1 (fdb ti33 ?_); refine o1 (ldb ti3 ?_); refine o1 (ine ?_); refine nx ?_; refine cdf (fun h6 => ?_) (fun h6 => ?_)
  · (try simp only [nrm, Int.reduceEq, Int.reduceNe, Int.reduceLT, Int.reduceLE] at h6)
    refine runs_skip ?_; refine seq_normal ?_; refine runs_seq ?_; refine a_start ?_ (hm := by exact mixed); refine A1 0 rfl (ldb ti45 ⟨_, rfl, ?_⟩); refine A1 1 rfl (ldb ti33 ⟨_, rfl, ?_⟩); refine A2 2 rfl (sto ti45 ?_)
    refine A2 3 rfl (sto ti33 ?_); refine a_end ?_; refine seq_normal ?_; refine runs_ret ?_; refine fin_ret ?_
    refine fin_dl ⟨_, _, rfl, (from_cell rfl rfl ti45 rfl rfl rfl rfl), ⟨_, _, rfl, (from_cell rfl rfl ti33 rfl rfl rfl rfl), rfl⟩⟩ rfl (.tup [(Lvl.mk k1 s1 a1).d, .agg [.v (.int .i64 (fcode (doneR s (levelR (s.size + 1) s ⟨0, none⟩).2).f)), .v (.int .i64 (fat (doneR s (levelR (s.size + 1) s ⟨0, none⟩).2).f))]]) (by exact .refl _) ?_
    rw [parseR_good (by omega) h6, hX]
  (try simp only [nrm, Int.reduceEq, Int.reduceNe, Int.reduceLT, Int.reduceLE] at h6); refine runs_seq ?_; refine kp [6, 3, 2] ?_; refine a_start ?_ (hm := by exact mixed); refine A1 0 rfl (bld ti45 ⟨_, rfl, ?_⟩)
  refine A1 1 rfl (ldb ti33 ⟨_, rfl, ?_⟩); refine A2 2 rfl (sto ti45 ?_); refine A2 3 rfl (sto ti33 ?_); refine a_end ?_; refine seq_normal ?_; refine runs_ret ?_; refine seq_ret ?_; refine fin_ret ?_
  refine fin_dl ⟨_, _, rfl, (from_cell rfl rfl ti45 rfl rfl rfl rfl), ⟨_, _, rfl, (from_cell rfl rfl ti33 rfl rfl rfl rfl), rfl⟩⟩ rfl (.tup [zeroL.d, .agg [.v (.int .i64 (fcode (doneR s (levelR (s.size + 1) s ⟨0, none⟩).2).f)), .v (.int .i64 (fat (doneR s (levelR (s.size + 1) s ⟨0, none⟩).2).f))]]) (by repeat (first | exact .refl _ | exact .nil | refine .agg ?_ | refine .tup ?_ | refine .cons ?_ ?_)) ?_
  rw [parseR_bad (by omega) h6]
end Go.Proofs.YtneaancanfpdhaaGreatDoor
