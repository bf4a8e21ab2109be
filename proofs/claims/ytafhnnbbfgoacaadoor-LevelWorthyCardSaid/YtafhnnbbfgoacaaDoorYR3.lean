/-
  What is proved here: contracts of the reference's functions on levels: SubstLevel, PrintLevel.
-/
import Derived.Test.YtafhnnbbfgoacaaDoorYR2
set_option linter.unusedSimpArgs false
set_option linter.unusedVariables false
namespace Go.Proofs.YtafhnnbbfgoacaaDoor
open Go Go.Vd Go.RowKit
attribute [local irreducible] Runs OpsR OpR FloatR AnyR
variable {gl : Nat → List D}


theorem substLevel_spec (ps : List ByteArray) (ls : List Lvl) (hl : ps.length ≤ ls.length) (hl2 : ps.length ≤ 281474976710656) : ∀ (n : Nat) (k : Int) (s : ByteArray) (args : List Lvl), (Lvl.mk k s args).size ≤ n → (Lvl.mk k s args).size ≤ 1099511627776 →
    TriD Tryd.prog gl 21 [(Lvl.mk k s args).d, strsD ps, .sl 3 (lvls ls)] (· = ((Lvl.mk k s args).subst ps ls).d) := by
  have hlp := strs_len ps
  have hll := lvls_len ls
  intro n
  induction n with
  | zero => intro k s args h; simp [Lvl.size] at h
  | succ n ih =>
    intro k s args hn hb
    have hsz : sizes args ≤ n := by simp [Lvl.size] at hn; omega
    have hlen := lvls_len args
    have hlb := lvls_size args
    simp only [Lvl.size] at hb
    refine triD_of_runs Tryd.func21 rfl Tryd.ntmps21 (rs := [.cell 6 31]) rfl rfl rfl ?_
    refine sr ?_; refine oc (T := fun _ => False) (bx ti31 ?_ (hl := by simp only [List.length_cons, List.length_nil, Nat.reduceAdd]; rfl))
    refine oc (T := fun _ => False) (alc ti31 ?_ (hl := by simp only [List.length_cons, List.length_nil, Nat.reduceAdd]; rfl)); refine nx ?_; refine runs_seq ?_; refine sr ?_; refine o1 (fdb ti31 ?_); refine o1 (ldb ti3 ?_); refine o1 (ieq ?_)
    refine nx ?_; refine cd (fun h1 => ?_) (fun h1 => ?_)
    · (try simp only [nrm, Int.reduceEq, Int.reduceNe, Int.reduceLT, Int.reduceLE] at h1)
      refine runs_seq ?_; refine kp [6, 3, 1, 2] ?_; refine sr ?_; refine o1 (asg ?_); refine nx ?_; refine runs_block ?_
      apply runs_loop_c (ι := Nat) (fun i => [(7, int i)]) [6, 3, 1, 2] (fun i => i ≤ ps.length ∧ s ∉ ps.take i) (fun i => ps.length - i) (0)
      case hk => exact rfl
      case hI =>
        exact ⟨Nat.zero_le _, by simp⟩
      case hm =>
        refine mo ?_ (sly (sly (sly (sly (sly slz)))))
        repeat (first | exact boz | refine boc ?_)
      case h =>
        rintro i hinv
        try dsimp only at hinv
        refine kp [7, 6, 3, 1, 2] ?_; refine runs_seq ?_; refine sr ?_; refine o1 (mv ?_); refine o1 (mv ?_); refine o1 (le1 us36 ?_); refine o1 (ilt ?_); refine nx ?_; refine cdf (fun h3 => ?_) (fun h3 => ?_)
        · (try simp only [nrm, Int.reduceEq, Int.reduceNe, Int.reduceLT, Int.reduceLE] at h3)
          refine runs_exit ?_; refine seq_exit ?_; refine seq_exit ?_; refine inb_exit ?_; refine seq_normal ?_; refine kp [6, 3] ?_; refine sr ?_; refine o1 (ldb ti31 ?_); refine oc (sto ti31 ?_); refine nx ?_; refine runs_ret ?_; refine seq_ret ?_
          refine fin_ret ?_; refine fin_d ⟨_, _, rfl, (from_cell rfl rfl ti31 rfl rfl rfl rfl), rfl⟩ rfl ?_
          have hk : k = 4 := by omega
          have h := hinv.2
          rw [List.take_of_length_le (by omega)] at h
          simp only [Lvl.subst, if_pos hk, findIdx_none h]
          rfl
        (try simp only [nrm, Int.reduceEq, Int.reduceNe, Int.reduceLT, Int.reduceLE] at h3); refine runs_skip ?_; refine seq_normal ?_; refine runs_seq ?_; refine runs_block ?_; refine runs_seq ?_; refine kp [7, 6, 3, 1, 2] ?_
        refine a_start ?_ (hm := by exact mixed); refine A1 0 rfl (mv ⟨_, rfl, ?_⟩); refine A1 1 rfl (mv ⟨_, rfl, ?_⟩); refine A1 2 rfl (ixs us36 te36 ⟨_, rfl, ?_⟩ (he := by exact (str_at (by omega)))); refine A1 3 rfl (ldc ti9 ⟨_, rfl, ?_⟩)
        refine A1 4 rfl (fdb ti31 ⟨_, rfl, ?_⟩); refine A1 5 rfl (ldb ti9 ⟨_, rfl, ?_⟩); refine A1 6 rfl (seq1 ⟨_, rfl, ?_⟩); refine a_end ?_; refine seq_normal ?_; refine cdf (fun h5 => ?_) (fun h5 => ?_)
        · (try simp only [nrm, Int.reduceEq, Int.reduceNe, Int.reduceLT, Int.reduceLE] at h5)
          refine runs_skip ?_; refine inb_normal ?_; refine seq_normal ?_; refine kp [7, 6, 3, 1, 2] ?_; refine runs_region ?_; refine o1 (mv ?_); refine o1 (iad ?_); refine o1 (asg ?_); refine ops_nil ?_; refine seq_back ?_
          refine back_i (i + 1) rfl ?_ ?_
          · exact ⟨⟨by omega, not_mem_take_succ (by omega) hinv.2 h5⟩, by omega⟩
          · refine mo ?_ (sly (sly (sly (sly (sly slz)))))
            repeat (first | exact boz | refine boc ?_)
        (try simp only [nrm, Int.reduceEq, Int.reduceNe, Int.reduceLT, Int.reduceLE] at h5); refine kp [7, 6, 2] ?_; refine sr ?_; refine o1 (mv ?_); refine o1 (mv ?_); obtain ⟨k', s', a', hget⟩ := lvl_get (show i < ls.length by omega)
        refine o1 (ixs us29 te29 ?_ (he := by exact (lvl_at hget))); refine o1 (ldc ti31 ?_); refine oc (sto ti31 ?_); refine nx ?_; refine runs_ret ?_; refine inb_ret ?_; refine seq_ret ?_; refine seq_ret ?_; refine inb_ret ?_; refine seq_ret ?_
        refine seq_ret ?_; refine fin_ret ?_; refine fin_d ⟨_, _, rfl, (from_cell rfl rfl ti31 rfl rfl rfl rfl), rfl⟩ rfl ?_
        have hk : k = 4 := by omega
        have hf := findIdx_some (show i < ps.length by omega) hinv.2 h5
        simp only [Lvl.subst, if_pos hk, hf, List.getD_eq_getElem?_getD, hget, Option.getD_some]
        rfl
    (try simp only [nrm, Int.reduceEq, Int.reduceNe, Int.reduceLT, Int.reduceLE] at h1); refine runs_skip ?_; refine seq_normal ?_; refine kp [6, 3, 1, 2] ?_; refine sr ?_; refine o1 (fdb ti31 ?_); refine o1 (ldb ti3 ?_); refine o1 (fdb ti31 ?_)
    refine o1 (ldb ti9 ?_); refine o1 (bld ti31 ?_); refine oc (T := fun _ => False) (alc ti31 ?_ (hl := by simp only [List.length_cons, List.length_nil, Nat.reduceAdd]; rfl)); refine oc (sto ti31 ?_); refine nx ?_; refine runs_seq ?_
    refine kp [8, 6, 3, 1, 2] ?_; refine sr ?_; refine o1 (asg ?_); refine nx ?_; refine runs_block ?_; refine runs_nilrow 31 3 rfl ?_
    apply runs_loop_o (ι := Nat) (fun i => [(9, int i)]) (fun i => [.cells [.d (.v (.int .i64 k)), .d (.v (.string s)), .d (.sl 3 (lvls args))] 31, .cells [.d (.v (.int .i64 0)), .d (.v (.string .empty)), .d (.v (.slice none 0 0))] 31, .cells [.d (.v (.int .i64 k)), .d (.v (.string s)), .own 3 3 (lvls (substL ps ls (args.take i)))] 31, .row 31 3]) [8, 6, 3, 1, 2] (fun i => i ≤ args.length) (fun i => args.length - i) (0) ([0, 1, 2, 3])
    case hk => exact rfl
    case hI =>
      exact Nat.zero_le _
    case hm =>
      refine mo ?_ (sly (sly (sly (sly (sly (sly slz))))))
      repeat (first | exact boz | exact fiz | refine boc ?_ | refine bon ?_ | refine boe ?_ ?_ | refine fir ?_ | refine .cons (.nil rfl) ?_)
    case h =>
      rintro i hinv
      try dsimp only at hinv
      refine kp [9, 8, 6, 3, 1, 2] ?_; refine runs_seq ?_; refine sr ?_; refine o1 (mv ?_); refine o1 (fdb ti31 ?_); refine o1 (ldb ti29 ?_); refine o1 (le1 us29 ?_); refine o1 (ilt ?_); refine nx ?_; refine cdf (fun h10 => ?_) (fun h10 => ?_)
      · (try simp only [nrm, Int.reduceEq, Int.reduceNe, Int.reduceLT, Int.reduceLE] at h10)
        refine runs_exit ?_; refine seq_exit ?_; refine seq_exit ?_; refine inb_exit ?_; refine seq_normal ?_; refine kp [8, 6] ?_; refine sr ?_; refine o1 (ldb ti31 ?_); refine oc (sto ti31 ?_); refine nx ?_; refine runs_ret ?_; refine fin_ret ?_
        refine fin_d ⟨_, _, rfl, (from_cell rfl rfl ti31 rfl rfl rfl rfl), rfl⟩ rfl ?_
        have hk : ¬ k = 4 := by omega
        simp only [Lvl.subst, if_neg hk]
        rw [List.take_of_length_le (by omega)]
        rfl
      (try simp only [nrm, Int.reduceEq, Int.reduceNe, Int.reduceLT, Int.reduceLE] at h10); refine runs_skip ?_; refine seq_normal ?_; refine runs_seq ?_; refine runs_block ?_; refine kp [9, 8, 6, 3, 1, 2] ?_
      obtain ⟨k', s', a', hget⟩ := lvl_get (show i < args.length by omega); obtain ⟨k2, s2, a2, hs2⟩ := Lvl.case ((Lvl.mk k' s' a').subst ps ls)
      have hsz' := size_get hget
      have hlast : lvls (substL ps ls (args.take i)) ++ [[.v (.int .i64 k2), .v (.string s2), .sl 3 (lvls a2)]] = lvls (substL ps ls (args.take (i + 1))) := by
        rw [substL_take hget, lvls_app, hs2]; rfl
      have hll2 := lvls_len (substL ps ls (args.take i))
      have hll3 := substL_len ps ls (args.take i)
      simp only [List.length_take] at hll3
      refine a_start ?_ (hm := by exact mixed); refine A1 0 rfl (fdb ti31 ⟨_, rfl, ?_⟩); refine A1 1 rfl (ldb ti29 ⟨_, rfl, ?_⟩); refine A1 2 rfl (fdb ti31 ⟨_, rfl, ?_⟩); refine A1 3 rfl (ldb ti29 ⟨_, rfl, ?_⟩); refine A1 4 rfl (mv ⟨_, rfl, ?_⟩)
      refine A1 5 rfl (ixs us29 te29 ⟨_, rfl, ?_⟩ (he := by exact (lvl_at hget))); refine A1 6 rfl (ldc ti31 ⟨_, rfl, ?_⟩); refine A1 7 rfl (mv ⟨_, rfl, ?_⟩); refine A1 8 rfl (mv ⟨_, rfl, ?_⟩)
      refine A2 (T := fun _ => False) 9 rfl (op_call ca21 rfl rfl rfl rfl (ih k' s' a' (by omega) (by omega)) (fid (fir (fir .nil))) (fun d hd => ?_))
      rw [hs2] at hd; obtain rfl := hd
      refine A2 (T := fun _ => False) 10 rfl (op_lit sl29 [.tmp 52] ti31 rfl rfl rfl rfl rfl rfl rfl (by decide) (by decide) (by decide) (by simp only [List.length_cons, List.length_nil, Nat.reduceAdd]; rfl) rfl ?_)
      refine A2 11 rfl (op_append sl29 rfl rfl rfl rfl rfl rfl rfl (.inl rfl) (by decide) (by simp) (by first | decide | (simp only [maxLen, List.length_cons, List.length_nil, List.length_append, List.length_map]; omega) | omega) rfl rfl rfl ?_)
      refine A1 12 rfl (fdb ti31 ⟨_, rfl, ?_⟩); refine A2 13 rfl (sto ti29 ?_); refine a_end ?_; refine inb_normal ?_; refine seq_normal ?_; refine kp [9, 8, 6, 3, 1, 2] ?_; refine runs_region ?_; refine o1 (mv ?_); refine o1 (iad ?_)
      refine o1 (asg ?_); refine ops_nil ?_; refine seq_back ?_
      rw [hlast]
      refine back_c (i + 1) rfl ?_ ([0, 1, 2, 3]) ?_
      · exact ⟨by omega, by omega⟩
      · refine mo ?_ (sly (sly (sly (sly (sly (sly slz))))))
        repeat (first | exact boz | refine boc ?_ | refine bor ?_)
end Go.Proofs.YtafhnnbbfgoacaaDoor
