/-
  What is proved here: contracts of the reference's functions on levels: among, Params, Worth, SameLevel.
-/
import Derived.Test.YtneaancanfpdhaaGreatDoorYData
import Derived.Test.YtneaancanfpdhaaGreatDoorYFacts
set_option linter.unusedSimpArgs false
set_option linter.unusedVariables false
namespace Go.Proofs.YtneaancanfpdhaaGreatDoor
open Go Go.Vd Go.RowKit
attribute [local irreducible] Runs OpsR OpR FloatR AnyR
variable {gl : Nat → List D}

theorem among_spec (name : ByteArray) (l : List ByteArray) (hl : l.length ≤ 281474976710656) : TriD Tryz.prog gl 96 [.v (.string name), strsD l] (· = .v (.bool (memB name l))) := by
  refine triD_of_runs Tryz.func96 rfl Tryz.ntmps96 (rs := [.tmp 4]) rfl rfl rfl ?_
  have hlen := strs_len l
  refine sr ?_; refine o1 (asg ?_); refine nx ?_; refine runs_seq ?_; refine sr ?_; refine o1 (asg ?_); refine nx ?_; refine runs_block ?_; refine kp [5, 0, 1] ?_
  apply runs_loop_c (ι := Nat) (fun i => [(5, int i)]) [0, 1] (fun i => i ≤ l.length ∧ name ∉ l.take i) (fun i => l.length - i) (0)
  case hk => exact rfl
  case hI =>
    exact ⟨by omega, by simp⟩
  case hm =>
    refine mo ?_ (sly (sly (sly slz))); exact boz
  case h =>
    rintro i hinv
    try dsimp only at hinv
    refine kp [5, 0, 1] ?_; refine runs_seq ?_; refine sr ?_; refine o1 (mv ?_); refine o1 (mv ?_); refine o1 (le1 us42 ?_); refine o1 (ilt ?_); refine nx ?_; refine cdf (fun h2 => ?_) (fun h2 => ?_)
    · (try simp only [nrm, Int.reduceEq, Int.reduceNe, Int.reduceLT, Int.reduceLE] at h2)
      refine runs_exit ?_; refine seq_exit ?_; refine seq_exit ?_; refine inb_exit ?_; refine seq_normal ?_; refine kp [] ?_; refine sr ?_; refine o1 (asg ?_); refine nx ?_; refine runs_ret ?_; refine fin_ret ?_; refine fin_d1 rfl rfl ?_
      rw [memB_false]
      have : l.take i = l := List.take_of_length_le (by omega)
      rw [← this]; exact hinv.2
    (try simp only [nrm, Int.reduceEq, Int.reduceNe, Int.reduceLT, Int.reduceLE] at h2); refine runs_skip ?_; refine seq_normal ?_; refine runs_seq ?_; refine runs_block ?_; refine kp [5, 0, 1] ?_; refine sr ?_; refine o1 (mv ?_)
    refine o1 (mv ?_); refine o1 (ixs us42 te42 ?_ (he := by exact (str_at (by omega)))); refine o1 (ldc ti9 ?_); refine o1 (mv ?_); refine o1 (seq1 ?_); refine nx ?_; refine cd (fun h4 => ?_) (fun h4 => ?_)
    · (try simp only [nrm, Int.reduceEq, Int.reduceNe, Int.reduceLT, Int.reduceLE] at h4)
      refine kp [] ?_; refine sr ?_; refine o1 (asg ?_); refine nx ?_; refine runs_ret ?_; refine inb_ret ?_; refine seq_ret ?_; refine seq_ret ?_; refine inb_ret ?_; refine seq_ret ?_; refine fin_ret ?_; refine fin_d1 rfl rfl ?_
      rw [memB_true (by omega) h4]
    (try simp only [nrm, Int.reduceEq, Int.reduceNe, Int.reduceLT, Int.reduceLE] at h4); refine runs_skip ?_; refine inb_normal ?_; refine seq_normal ?_; refine kp [5, 0, 1] ?_; refine runs_region ?_; refine o1 (mv ?_); refine o1 (iad ?_)
    refine o1 (asg ?_); refine ops_nil ?_; refine seq_back ?_; refine back_i (i + 1) rfl ?_ ?_
    · exact ⟨⟨by omega, not_mem_take_succ (by omega) hinv.2 h4⟩, by omega⟩
    · refine mo ?_ (sly (sly (sly slz)))
      exact boz

theorem params_spec : ∀ (n : Nat) (k : Int) (s : ByteArray) (args : List Lvl) (ah : List ByteArray), (Lvl.mk k s args).size ≤ n → ah.length + (Lvl.mk k s args).size ≤ 1099511627776 →
    Tri Tryz.prog gl 59 [.row 9 1] [.d (Lvl.mk k s args).d, .own 0 1 (strs ah)] fun out ob' => out = .ret (.own 0 1 (strs ((Lvl.mk k s args).params ah))) ∧ ob' = [.row 9 1] := by
  intro n
  induction n with
  | zero => intro k s args ah h; simp [Lvl.size] at h
  | succ n ih =>
    intro k s args ah hn hb
    have hsz : sizes args ≤ n := by simp [Lvl.size] at hn; omega
    have hlen := lvls_len args
    have hlen2 := strs_len ah
    have hlb := lvls_size args
    simp only [Lvl.size] at hb
    refine triS_of_runs Tryz.func59 rfl Tryz.ntmps59 (rs := [.tmp 4]) rfl rfl rfl 1 rfl ?_
    refine sr ?_; refine oc (T := fun _ => False) (bx ti45 ?_ (hl := by simp only [List.length_cons, List.length_nil, Nat.reduceAdd]; rfl)); refine o1 (asg ?_); refine nx ?_; refine runs_seq ?_; refine sr ?_; refine o1 (fdb ti45 ?_)
    refine o1 (ldb ti3 ?_); refine o1 (ieq ?_); refine nx ?_; refine cd (fun h1 => ?_) (fun h1 => ?_)
    · (try simp only [nrm, Int.reduceEq, Int.reduceNe, Int.reduceLT, Int.reduceLE] at h1)
      refine kp [2, 1] ?_; refine sr ?_; refine o1 (fdb ti45 ?_); refine o1 (ldb ti9 ?_); refine o1 (mv ?_); refine oc (cv ca96 rfl rfl (among_spec s ah (by omega)) (fir (fid .nil)) ?_); refine o1 (asg ?_); refine nx ?_; refine runs_seq ?_
      refine kp [5, 2, 1] ?_; refine sr ?_; refine o1 (mv ?_); refine o1 (f_not ?_); refine nx ?_; refine cdf (fun h3 => ?_) (fun h3 => ?_)
      · (try simp only [nrm, Int.reduceEq, Int.reduceNe, Int.reduceLT, Int.reduceLE] at h3)
        refine runs_skip ?_; refine seq_normal ?_; refine kp [1] ?_; refine sr ?_; refine o1 (mv ?_); refine o1 (asg ?_); refine nx ?_; refine runs_ret ?_; refine seq_ret ?_; refine fin_ret ?_
        refine fin_o ⟨_, _, rfl, rfl, rfl⟩ [0] (.own 0 1 (strs ah)) ([.row 9 1]) rfl rfl rfl ?_ rfl ?_ ?_
        · repeat (first | exact boz | refine bor ?_)
        · exact .refl _
        · refine ⟨?_, rfl⟩; simp only [Lvl.params, if_pos (show k = 4 by omega), h3]; rfl
      (try simp only [nrm, Int.reduceEq, Int.reduceNe, Int.reduceLT, Int.reduceLE] at h3); refine runs_region ?_; refine o1 (mv ?_); refine o1 (fdb ti45 ?_); refine o1 (ldb ti9 ?_)
      refine oc (T := fun _ => False) (op_lit sl42 [.tmp 18] ti9 rfl rfl rfl rfl rfl rfl rfl (by decide) (by decide) (by decide) (by simp only [List.length_cons, List.length_nil, Nat.reduceAdd]; rfl) rfl ?_)
      refine oc (op_append sl42 rfl rfl rfl rfl rfl rfl rfl (.inl rfl) (by decide) (by simp) (by first | decide | (simp only [maxLen, List.length_cons, List.length_nil, List.length_append, List.length_map]; omega) | omega) rfl rfl rfl ?_)
      refine o1 (asg ?_); refine nx ?_; refine kp [1] ?_; refine sr ?_; refine o1 (mv ?_); refine o1 (asg ?_); refine nx ?_; refine runs_ret ?_; refine seq_ret ?_; refine fin_ret ?_
      refine fin_o ⟨_, _, rfl, rfl, rfl⟩ [0] (.own 0 1 (strs (ah ++ [s]))) ([.row 9 1]) rfl rfl rfl ?_ rfl ?_ ?_
      · repeat (first | exact boz | refine bor ?_)
      · exact Fit.of_eq (by rw [← strs_app]; rfl)
      · refine ⟨?_, rfl⟩; simp only [Lvl.params, if_pos (show k = 4 by omega), h3]; rfl
    (try simp only [nrm, Int.reduceEq, Int.reduceNe, Int.reduceLT, Int.reduceLE] at h1); refine runs_skip ?_; refine seq_normal ?_; refine runs_seq ?_; refine kp [2, 1] ?_; refine sr ?_; refine o1 (asg ?_); refine nx ?_; refine runs_block ?_
    apply runs_loop_c (ι := Nat) (fun i => [(6, int i), (1, .own 0 1 (strs (paramsL (args.take i) ah)))]) [2] (fun i => i ≤ args.length) (fun i => args.length - i) (0)
    case hk => exact rfl
    case hI =>
      exact Nat.zero_le _
    case hm =>
      refine mo ?_ (sly (sly (sly slz)))
      repeat (first | exact boz | refine boc ?_ | refine bor ?_)
    case h =>
      rintro i hinv
      try dsimp only at hinv
      refine kp [6, 1, 2] ?_; refine runs_seq ?_; refine sr ?_; refine o1 (mv ?_); refine o1 (fdb ti45 ?_); refine o1 (ldb ti28 ?_); refine o1 (le1 us28 ?_); refine o1 (ilt ?_); refine nx ?_; refine cdf (fun h7 => ?_) (fun h7 => ?_)
      · (try simp only [nrm, Int.reduceEq, Int.reduceNe, Int.reduceLT, Int.reduceLE] at h7)
        refine runs_exit ?_; refine seq_exit ?_; refine seq_exit ?_; refine inb_exit ?_; refine seq_normal ?_; refine kp [1] ?_; refine sr ?_; refine o1 (mv ?_); refine o1 (asg ?_); refine nx ?_; refine runs_ret ?_; refine fin_ret ?_
        refine fin_o ⟨_, _, rfl, rfl, rfl⟩ [0] (.own 0 1 (strs (paramsL (args.take i) ah))) ([.row 9 1]) rfl rfl rfl ?_ rfl ?_ ?_
        · repeat (first | exact boz | refine bor ?_)
        · exact .refl _
        · refine ⟨?_, rfl⟩; simp only [Lvl.params, if_neg (show ¬ k = 4 by omega)]; rw [List.take_of_length_le (by omega)]
      (try simp only [nrm, Int.reduceEq, Int.reduceNe, Int.reduceLT, Int.reduceLE] at h7); refine runs_skip ?_; refine seq_normal ?_; refine runs_seq ?_; refine runs_block ?_; refine kp [6, 1, 2] ?_; refine runs_region ?_; refine o1 (fdb ti45 ?_)
      refine o1 (ldb ti28 ?_); refine o1 (mv ?_); obtain ⟨k', s', a', hget⟩ := lvl_get (show i < args.length by omega)
      have hsz' := size_get hget
      have hlt := paramsL_len (args.take i) ah
      have hst := sizes_take hget
      have hsl := sizes_take_le args (i + 1)
      refine o1 (ixs us28 te28 ?_ (he := by exact (lvl_at hget))); refine o1 (ldc ti45 ?_); refine o1 (mv ?_)
      refine oc (op_callo ca59 rfl rfl rfl rfl (ih k' s' a' (paramsL (args.take i) ah) (by omega) (by omega)) [0] (bor .nil) rfl rfl rfl rfl (fid (fir .nil)) (fun s ob' hq => ?_) (fun s ob' hq => ?_))
      rotate_left
      · first | exact hq.elim | cases hq.1
      obtain ⟨hq1, rfl⟩ := hq; cases hq1
      rw [← paramsL_take hget]; refine ⟨_, _, _, _, _, rfl, rfl, rfl, rfl, rfl, ?_⟩
      refine o1 (asg ?_); refine ops_nil ?_; refine inb_normal ?_; refine seq_normal ?_; refine kp [1, 6, 2] ?_; refine runs_region ?_; refine o1 (mv ?_); refine o1 (iad ?_); refine o1 (asg ?_); refine ops_nil ?_; refine seq_back ?_
      refine back_i (i + 1) rfl ?_ ?_
      · exact ⟨by omega, by omega⟩
      · refine mo ?_ (sly (sly (sly slz)))
        repeat (first | exact boz | refine boc ?_ | refine bor ?_)

end Go.Proofs.YtneaancanfpdhaaGreatDoor
