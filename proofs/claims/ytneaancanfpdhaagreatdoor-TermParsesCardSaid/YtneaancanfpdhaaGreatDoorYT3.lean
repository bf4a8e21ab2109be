/-
  What is proved here: contracts of the reference's ParseTerm, SameTerm.
-/
import Derived.Test.YtneaancanfpdhaaGreatDoorYT2
import Derived.Test.YtneaancanfpdhaaGreatDoorYSm
set_option linter.unusedSimpArgs false
set_option linter.unusedVariables false
namespace Go.Proofs.YtneaancanfpdhaaGreatDoor
open Go Go.Vd Go.RowKit
attribute [local irreducible] Runs OpsR OpR FloatR AnyR AnyO
variable {g gl : Nat → List D}

theorem parseTerm_spec (s : ByteArray) : TriD Tryz.prog (glT g) 9 [.v (.string s)] (· = .tup [(parseT s).1.d, .agg [.v (.int .i64 (parseT s).2.1), .v (.int .i64 (parseT s).2.2)]]) := by
  refine triD_of_runs Tryz.func9 rfl Tryz.ntmps9 (rs := [.cell 2 31, .cell 3 33]) rfl rfl rfl ?_
  refine sr ?_; refine oc (T := fun _ => False) (alc ti31 ?_ (hl := by simp only [List.length_cons, List.length_nil, Nat.reduceAdd]; rfl))
  refine oc (T := fun _ => False) (alc ti33 ?_ (hl := by simp only [List.length_cons, List.length_nil, Nat.reduceAdd]; rfl)); refine nx ?_; refine runs_seq ?_; refine sr ?_; refine o1 (mv ?_); refine o1 (le3 ut9 ?_); refine o1 (igt ?_)
  refine nx ?_; refine cd (fun h1 => ?_) (fun h1 => ?_)
  · (try simp only [nrm, Int.reduceEq, Int.reduceNe, Int.reduceLT, Int.reduceLE] at h1)
    refine kp [3, 2] ?_; refine sr ?_; refine o1 (bld ti31 ?_); refine o1 (bld ti33 ?_); refine oc (sto ti31 ?_); refine oc (sto ti33 ?_); refine nx ?_; refine runs_ret ?_; refine seq_ret ?_; refine fin_ret ?_
    refine fin_dl ⟨_, _, rfl, (from_cell rfl rfl ti31 rfl rfl rfl rfl), ⟨_, _, rfl, (from_cell rfl rfl ti33 rfl rfl rfl rfl), rfl⟩⟩ rfl (.tup [zeroT.d, .agg [.v (.int .i64 2), .v (.int .i64 0)]]) (by repeat (first | exact .refl _ | exact .nil | refine .agg ?_ | refine .tup ?_ | refine .cons ?_ ?_)) ?_
    unfold parseT; rw [if_pos (by omega)]
  (try simp only [nrm, Int.reduceEq, Int.reduceNe, Int.reduceLT, Int.reduceLE] at h1); refine runs_skip ?_; refine seq_normal ?_; refine sr ?_; refine o1 (mv ?_); refine o1 (bld ti71 ?_)
  refine oc (T := fun _ => False) (bx ti71 ?_ (hl := by simp only [List.length_cons, List.length_nil, Nat.reduceAdd]; rfl)); refine o1 (asg ?_); refine nx ?_; refine runs_seq ?_; refine kp [4, 3, 2] ?_
  obtain ⟨k1, n1, s1, l1, a1, hX⟩ := Trm.case (termR (s.size + 1) s ⟨0, none⟩).1
  have hs : s.size ≤ 1099511627776 := by omega
  have hle := termR_le (s := s) (s.size + 1) ⟨0, none⟩ (Nat.zero_le _)
  refine runs_region ?_; refine o1 (mv ?_); refine oc (op_callo ca42 rfl rfl rfl rfl (term_spec s hs (s.size + 1) ⟨0, none⟩ (Nat.zero_le _) (by simp)) [2] (boc .nil) rfl rfl rfl rfl (fir .nil) (fun s ob' hq => ?_) (fun s ob' hq => ?_))
  rotate_left
  · first | exact hq.elim | cases hq.1
  obtain ⟨hq1, rfl⟩ := hq; rw [hX] at hq1; cases hq1; refine ⟨_, _, _, _, _, rfl, rfl, rfl, rfl, rfl, ?_⟩; refine oc (T := fun _ => False) (alc ti31 ?_ (hl := by simp only [List.length_cons, List.length_nil, Nat.reduceAdd]; rfl))
  refine oc (sto ti31 ?_); refine nx ?_; refine sr ?_; refine o1 (mv ?_); refine oc (ck ca43 rfl rfl (done_spec s (termR (s.size + 1) s ⟨0, none⟩).2 hs hle.2) [2] rfl (boc .nil) (fir .nil) ?_)
  refine oc (T := fun _ => False) (alc ti33 ?_ (hl := by simp only [List.length_cons, List.length_nil, Nat.reduceAdd]; rfl)); refine oc (sto ti33 ?_); refine nx ?_; refine runs_seq ?_; refine kp [6, 5, 3, 2] ?_; refine sr ?_
  refine o1 (fdb ti33 ?_); refine o1 (ldb ti3 ?_); refine o1 (ine ?_); refine nx ?_; refine cdf (fun h6 => ?_) (fun h6 => ?_)
  · (try simp only [nrm, Int.reduceEq, Int.reduceNe, Int.reduceLT, Int.reduceLE] at h6)
    refine runs_skip ?_; refine seq_normal ?_; refine runs_seq ?_; refine a_start ?_ (hm := by exact mixed); refine A1 0 rfl (ldb ti31 ⟨_, rfl, ?_⟩); refine A1 1 rfl (ldb ti33 ⟨_, rfl, ?_⟩); refine A2 2 rfl (sto ti31 ?_)
    refine A2 3 rfl (sto ti33 ?_); refine a_end ?_; refine seq_normal ?_; refine runs_ret ?_; refine fin_ret ?_
    refine fin_dl ⟨_, _, rfl, (from_cell rfl rfl ti31 rfl rfl rfl rfl), ⟨_, _, rfl, (from_cell rfl rfl ti33 rfl rfl rfl rfl), rfl⟩⟩ rfl (.tup [(Trm.mk k1 n1 s1 l1 a1).d, .agg [.v (.int .i64 (fcode (doneR s (termR (s.size + 1) s ⟨0, none⟩).2).f)), .v (.int .i64 (fat (doneR s (termR (s.size + 1) s ⟨0, none⟩).2).f))]]) (by exact .refl _) ?_
    rw [parseT_good (by omega) h6, hX]
  (try simp only [nrm, Int.reduceEq, Int.reduceNe, Int.reduceLT, Int.reduceLE] at h6); refine runs_seq ?_; refine kp [6, 3, 2] ?_; refine a_start ?_ (hm := by exact mixed); refine A1 0 rfl (bld ti31 ⟨_, rfl, ?_⟩)
  refine A1 1 rfl (ldb ti33 ⟨_, rfl, ?_⟩); refine A2 2 rfl (sto ti31 ?_); refine A2 3 rfl (sto ti33 ?_); refine a_end ?_; refine seq_normal ?_; refine runs_ret ?_; refine seq_ret ?_; refine fin_ret ?_
  refine fin_dl ⟨_, _, rfl, (from_cell rfl rfl ti31 rfl rfl rfl rfl), ⟨_, _, rfl, (from_cell rfl rfl ti33 rfl rfl rfl rfl), rfl⟩⟩ rfl (.tup [zeroT.d, .agg [.v (.int .i64 (fcode (doneR s (termR (s.size + 1) s ⟨0, none⟩).2).f)), .v (.int .i64 (fat (doneR s (termR (s.size + 1) s ⟨0, none⟩).2).f))]]) (by repeat (first | exact .refl _ | exact .nil | refine .agg ?_ | refine .tup ?_ | refine .cons ?_ ?_)) ?_
  rw [parseT_bad (by omega) h6]

theorem alike_spec : ∀ (n : Nat) (k m : Int) (s : ByteArray) (ls : List Lvl) (args : List Trm) (k2 m2 : Int) (s2 : ByteArray) (ls2 : List Lvl) (args2 : List Trm), (Trm.mk k m s ls args).size ≤ n → (Trm.mk k m s ls args).size ≤ 1099511627776 →
    TriD Tryz.prog gl 55 [(Trm.mk k m s ls args).d, (Trm.mk k2 m2 s2 ls2 args2).d, .v (.bool false)] (· = .v (.bool (Trm.same (.mk k m s ls args) (.mk k2 m2 s2 ls2 args2)))) := by
  intro n
  induction n with
  | zero => intro k m s ls args k2 m2 s2 ls2 args2 h; simp [Trm.size] at h
  | succ n ih =>
    intro k m s ls args k2 m2 s2 ls2 args2 hn hb
    have hsz : sizesT args ≤ n := by simp [Trm.size] at hn; omega
    have hlen := trms_len args
    have hlen2 := trms_len args2
    have hlb := trms_size args
    have hlenL := lvls_len ls
    have hlenL2 := lvls_len ls2
    have hlbL := lvls_size ls
    simp only [Trm.size] at hb
    refine triD_of_runs Tryz.func55 rfl Tryz.ntmps55 (rs := [.tmp 6]) rfl rfl rfl ?_
    refine sr ?_; refine oc (T := fun _ => False) (bx ti31 ?_ (hl := by simp only [List.length_cons, List.length_nil, Nat.reduceAdd]; rfl))
    refine oc (T := fun _ => False) (bx ti31 ?_ (hl := by simp only [List.length_cons, List.length_nil, Nat.reduceAdd]; rfl)); refine o1 (asg ?_); refine nx ?_; refine runs_seq ?_; refine sr ?_; refine o1 (fdb ti31 ?_); refine o1 (ldb ti3 ?_)
    refine o1 (fdb ti31 ?_); refine o1 (ldb ti3 ?_); refine o1 (ine ?_); refine o1 (mv ?_)
    apply ops_or (yt := 21) (d := 16) 5 rfl rfl rfl (.none rfl) rfl rfl
    case h1 =>
      intro hb10 hK
      have hc := hb10; (try simp only [nrm, Int.reduceEq, Int.reduceNe, Int.reduceLT, Int.reduceLE] at hc)
      refine gye ?_ (hbw := by exact hb10); refine o1 (fdb ti31 ?_); refine gye ?_ (hbw := by exact hb10); refine o1 (ldb ti3 ?_); refine gye ?_ (hbw := by exact hb10); refine o1 (fdb ti31 ?_); refine gye ?_ (hbw := by exact hb10)
      refine o1 (ldb ti3 ?_); refine gye ?_ (hbw := by exact hb10); refine o1 (ine ?_); exact hK [_, _, _, _, _] rfl rfl
    case h2 =>
      intro hb10 hK; refine gno ?_ (hbw := by exact hb10); refine gno ?_ (hbw := by exact hb10); refine gno ?_ (hbw := by exact hb10); refine gno ?_ (hbw := by exact hb10); refine gno ?_ (hbw := by exact hb10); exact hK [_, _, _, _, _] rfl
    refine o1 (mv ?_)
    apply ops_or (yt := 28) (d := 23) 5 rfl rfl rfl (.none rfl) rfl rfl
    case h1 =>
      intro hb24 hK
      have hc := hb24; (try simp only [nrm, Int.reduceEq, Int.reduceNe, Int.reduceLT, Int.reduceLE] at hc)
      refine gye ?_ (hbw := by exact hb24); refine o1 (fdb ti31 ?_); refine gye ?_ (hbw := by exact hb24); refine o1 (ldb ti9 ?_); refine gye ?_ (hbw := by exact hb24); refine o1 (fdb ti31 ?_); refine gye ?_ (hbw := by exact hb24)
      refine o1 (ldb ti9 ?_); refine gye ?_ (hbw := by exact hb24); refine o1 (sne ?_); exact hK [_, _, _, _, _] rfl rfl
    case h2 =>
      intro hb24 hK; refine gno ?_ (hbw := by exact hb24); refine gno ?_ (hbw := by exact hb24); refine gno ?_ (hbw := by exact hb24); refine gno ?_ (hbw := by exact hb24); refine gno ?_ (hbw := by exact hb24); exact hK [_, _, _, _, _] rfl
    refine o1 (mv ?_)
    apply ops_or (yt := 37) (d := 30) 7 rfl rfl rfl (.none rfl) rfl rfl
    case h1 =>
      intro hb38 hK
      have hc := hb38; (try simp only [nrm, Int.reduceEq, Int.reduceNe, Int.reduceLT, Int.reduceLE] at hc)
      refine gye ?_ (hbw := by exact hb38); refine o1 (fdb ti31 ?_); refine gye ?_ (hbw := by exact hb38); refine o1 (ldb ti28 ?_); refine gye ?_ (hbw := by exact hb38); refine o1 (le1 us28 ?_); refine gye ?_ (hbw := by exact hb38)
      refine o1 (fdb ti31 ?_); refine gye ?_ (hbw := by exact hb38); refine o1 (ldb ti28 ?_); refine gye ?_ (hbw := by exact hb38); refine o1 (le1 us28 ?_); refine gye ?_ (hbw := by exact hb38); refine o1 (ine ?_)
      exact hK [_, _, _, _, _, _, _] rfl rfl
    case h2 =>
      intro hb38 hK; refine gno ?_ (hbw := by exact hb38); refine gno ?_ (hbw := by exact hb38); refine gno ?_ (hbw := by exact hb38); refine gno ?_ (hbw := by exact hb38); refine gno ?_ (hbw := by exact hb38); refine gno ?_ (hbw := by exact hb38)
      refine gno ?_ (hbw := by exact hb38); exact hK [_, _, _, _, _, _, _] rfl
    refine o1 (mv ?_)
    apply ops_or (yt := 46) (d := 39) 7 rfl rfl rfl (.none rfl) rfl rfl
    case h1 =>
      intro hb56 hK
      have hc := hb56; (try simp only [nrm, Int.reduceEq, Int.reduceNe, Int.reduceLT, Int.reduceLE] at hc)
      refine gye ?_ (hbw := by exact hb56); refine o1 (fdb ti31 ?_); refine gye ?_ (hbw := by exact hb56); refine o1 (ldb ti29 ?_); refine gye ?_ (hbw := by exact hb56); refine o1 (le1 us29 ?_); refine gye ?_ (hbw := by exact hb56)
      refine o1 (fdb ti31 ?_); refine gye ?_ (hbw := by exact hb56); refine o1 (ldb ti29 ?_); refine gye ?_ (hbw := by exact hb56); refine o1 (le1 us29 ?_); refine gye ?_ (hbw := by exact hb56); refine o1 (ine ?_)
      exact hK [_, _, _, _, _, _, _] rfl rfl
    case h2 =>
      intro hb56 hK; refine gno ?_ (hbw := by exact hb56); refine gno ?_ (hbw := by exact hb56); refine gno ?_ (hbw := by exact hb56); refine gno ?_ (hbw := by exact hb56); refine gno ?_ (hbw := by exact hb56); refine gno ?_ (hbw := by exact hb56)
      refine gno ?_ (hbw := by exact hb56); exact hK [_, _, _, _, _, _, _] rfl
    refine nx ?_; refine cd (fun h1 => ?_) (fun h1 => ?_)
    · (try simp only [nrm, Int.reduceEq, Int.reduceNe, Int.reduceLT, Int.reduceLE] at h1)
      refine kp [] ?_; refine sr ?_; refine o1 (asg ?_); refine nx ?_; refine runs_ret ?_; refine seq_ret ?_; refine fin_ret ?_; refine fin_d1 rfl rfl ?_
      rw [Trm.same_eq]
      rcases h1 with (((h | h) | h) | h) | h
      · simp [h]
      · simp [h]
      · simp [h]
      · have : sameL ls ls2 = false := by
          cases hs : sameL ls ls2 with
          | false => rfl
          | true => exact absurd (by have := sameL_len hs; omega) h
        simp [this]
      · have : sameT args args2 = false := by
          cases hs : sameT args args2 with
          | false => rfl
          | true => exact absurd (by have := sameT_len hs; omega) h
        simp [this]
    (try simp only [nrm, Int.reduceEq, Int.reduceNe, Int.reduceLT, Int.reduceLE] at h1); refine runs_skip ?_; refine seq_normal ?_; refine runs_seq ?_; refine kp [4, 3, 2] ?_; refine sr ?_; refine o1 (asg ?_); refine nx ?_; refine runs_block ?_
    apply runs_loop_c (ι := Nat) (fun i => [(7, int i)]) [4, 3, 2] (fun i => i ≤ ls.length ∧ sameL (ls.take i) (ls2.take i) = true) (fun i => ls.length - i) (0)
    case hk => exact rfl
    case hI =>
      exact ⟨Nat.zero_le _, by simp [sameL]⟩
    case hm =>
      refine mo ?_ (sly (sly (sly (sly slz))))
      repeat (first | exact boz | refine boc ?_)
    case h =>
      rintro i hinv
      try dsimp only at hinv
      refine kp [7, 4, 3, 2] ?_; refine runs_seq ?_; refine sr ?_; refine o1 (mv ?_); refine o1 (fdb ti31 ?_); refine o1 (ldb ti28 ?_); refine o1 (le1 us28 ?_); refine o1 (ilt ?_); refine nx ?_; refine cd (fun h4 => ?_) (fun h4 => ?_)
      · (try simp only [nrm, Int.reduceEq, Int.reduceNe, Int.reduceLT, Int.reduceLE] at h4)
        refine runs_skip ?_; refine seq_normal ?_; refine runs_seq ?_; refine runs_block ?_; refine runs_seq ?_; refine kp [7, 4, 3, 2] ?_; obtain ⟨k', s', a', hget⟩ := lvl_get (show i < ls.length by omega)
        obtain ⟨k2', s2', a2', hget2⟩ := lvl_get (show i < ls2.length by omega)
        have hsz' := size_get hget
        refine a_start ?_ (hm := by exact mixed); refine A1 0 rfl (fdb ti31 ⟨_, rfl, ?_⟩); refine A1 1 rfl (ldb ti28 ⟨_, rfl, ?_⟩); refine A1 2 rfl (mv ⟨_, rfl, ?_⟩); refine A1 3 rfl (ixs us28 te28 ⟨_, rfl, ?_⟩ (he := by exact (lvl_at hget)))
        refine A1 4 rfl (ldc ti45 ⟨_, rfl, ?_⟩); refine A1 5 rfl (fdb ti31 ⟨_, rfl, ?_⟩); refine A1 6 rfl (ldb ti28 ⟨_, rfl, ?_⟩); refine A1 7 rfl (mv ⟨_, rfl, ?_⟩); refine A1 8 rfl (ixs us28 te28 ⟨_, rfl, ?_⟩ (he := by exact (lvl_at hget2)))
        refine A1 9 rfl (ldc ti45 ⟨_, rfl, ?_⟩); refine A2 10 rfl (cv ca94 rfl rfl (sameLvl_spec _ k' s' a' k2' s2' a2' (Nat.le_refl _) (by omega)) (fid (fid .nil)) ?_); refine A1 11 rfl (asg ⟨_, rfl, ?_⟩); refine a_end ?_; refine seq_normal ?_
        refine runs_seq ?_; refine kp [8, 7, 4, 3, 2] ?_; refine sr ?_; refine o1 (mv ?_); refine o1 (f_not ?_); refine o1 (mv ?_)
        apply ops_and (yt := 69) (d := 68) 1 rfl rfl rfl (.none rfl) rfl rfl
        case h1 =>
          intro hb5 hK
          have hc := hb5; (try simp only [nrm, Int.reduceEq, Int.reduceNe, Int.reduceLT, Int.reduceLE] at hc)
          refine gye ?_ (hbw := by exact hb5); refine o1 (mv ?_); exact hK [_] rfl rfl
        case h2 =>
          intro hb5 hK; refine gno ?_ (hbw := by exact hb5); exact hK [_] rfl
        refine nx ?_; refine cd (fun h7 => ?_) (fun h7 => ?_)
        · simp only [nrm, Int.reduceEq, Int.reduceNe, Int.reduceLT, Int.reduceLE] at h7
        (try simp only [nrm, Int.reduceEq, Int.reduceNe, Int.reduceLT, Int.reduceLE] at h7); refine runs_skip ?_; refine seq_normal ?_; refine kp [8, 7, 4, 3, 2] ?_; refine sr ?_; refine o1 (mv ?_); refine o1 (f_not ?_); refine nx ?_
        refine cd (fun h9 => ?_) (fun h9 => ?_)
        · (try simp only [nrm, Int.reduceEq, Int.reduceNe, Int.reduceLT, Int.reduceLE] at h9)
          refine kp [] ?_; refine sr ?_; refine o1 (asg ?_); refine nx ?_; refine runs_ret ?_; refine inb_ret ?_; refine seq_ret ?_; refine seq_ret ?_; refine inb_ret ?_; refine seq_ret ?_; refine fin_ret ?_; refine fin_d1 rfl rfl ?_
          rw [Trm.same_eq]; rw [sameL_false hget hget2 h9]; simp
        (try simp only [nrm, Int.reduceEq, Int.reduceNe, Int.reduceLT, Int.reduceLE] at h9); refine runs_skip ?_; refine inb_normal ?_; refine seq_normal ?_; refine runs_region ?_; refine o1 (mv ?_); refine o1 (iad ?_); refine o1 (asg ?_)
        refine ops_nil ?_; refine seq_back ?_; refine back_i (i + 1) rfl ?_ ?_
        · exact ⟨⟨by omega, by rw [sameL_take hget hget2]; simp [hinv.2, h9]⟩, by omega⟩
        · refine mo ?_ (sly (sly (sly (sly slz))))
          repeat (first | exact boz | refine boc ?_)
      (try simp only [nrm, Int.reduceEq, Int.reduceNe, Int.reduceLT, Int.reduceLE] at h4); refine runs_exit ?_; refine seq_exit ?_; refine seq_exit ?_; refine inb_exit ?_; refine seq_normal ?_; refine runs_seq ?_; refine runs_seq ?_
      refine kp [4, 3, 2] ?_
      have hL := hinv.2
      rw [List.take_of_length_le (by omega), List.take_of_length_le (by omega)] at hL
      refine runs_region ?_; refine o1 (asg ?_); refine nx ?_; refine runs_block ?_
      apply runs_loop_c (ι := Nat) (fun j => [(9, int j)]) [4, 3, 2] (fun j => j ≤ args.length ∧ sameT (args.take j) (args2.take j) = true) (fun j => args.length - j) (0)
      case hk => exact rfl
      case hI =>
        exact ⟨Nat.zero_le _, by simp [sameT]⟩
      case hm =>
        refine mo ?_ (sly (sly (sly (sly slz))))
        repeat (first | exact boz | refine boc ?_)
      case h =>
        rintro j hinv
        try dsimp only at hinv
        refine kp [9, 4, 3, 2] ?_; refine runs_seq ?_; refine sr ?_; refine o1 (mv ?_); refine o1 (fdb ti31 ?_); refine o1 (ldb ti29 ?_); refine o1 (le1 us29 ?_); refine o1 (ilt ?_); refine nx ?_; refine cdf (fun h12 => ?_) (fun h12 => ?_)
        · (try simp only [nrm, Int.reduceEq, Int.reduceNe, Int.reduceLT, Int.reduceLE] at h12)
          refine runs_exit ?_; refine seq_exit ?_; refine seq_exit ?_; refine inb_exit ?_; refine seq_normal ?_; refine kp [] ?_; refine sr ?_; refine o1 (asg ?_); refine nx ?_; refine runs_ret ?_; refine fin_ret ?_; refine fin_d1 rfl rfl ?_
          rw [Trm.same_eq]; have h9 := hinv.2; rw [List.take_of_length_le (by omega), List.take_of_length_le (by omega)] at h9; simp [h9, h1, hL]
        (try simp only [nrm, Int.reduceEq, Int.reduceNe, Int.reduceLT, Int.reduceLE] at h12); refine runs_skip ?_; refine seq_normal ?_; refine runs_seq ?_; refine runs_block ?_; refine runs_seq ?_; refine kp [9, 4, 3, 2] ?_
        obtain ⟨k', n', s', l', a', hget⟩ := trm_get (show j < args.length by omega); obtain ⟨k2', n2', s2', l2', a2', hget2⟩ := trm_get (show j < args2.length by omega)
        have hsz' := sizeT_get hget
        refine a_start ?_ (hm := by exact mixed); refine A1 0 rfl (fdb ti31 ⟨_, rfl, ?_⟩); refine A1 1 rfl (ldb ti29 ⟨_, rfl, ?_⟩); refine A1 2 rfl (mv ⟨_, rfl, ?_⟩); refine A1 3 rfl (ixs us29 te29 ⟨_, rfl, ?_⟩ (he := by exact (trm_at hget)))
        refine A1 4 rfl (ldc ti31 ⟨_, rfl, ?_⟩); refine A1 5 rfl (fdb ti31 ⟨_, rfl, ?_⟩); refine A1 6 rfl (ldb ti29 ⟨_, rfl, ?_⟩); refine A1 7 rfl (mv ⟨_, rfl, ?_⟩); refine A1 8 rfl (ixs us29 te29 ⟨_, rfl, ?_⟩ (he := by exact (trm_at hget2)))
        refine A1 9 rfl (ldc ti31 ⟨_, rfl, ?_⟩); refine A1 10 rfl (mv ⟨_, rfl, ?_⟩); refine A2 11 rfl (cv ca55 rfl rfl (ih k' n' s' l' a' k2' n2' s2' l2' a2' (by omega) (by omega)) (fid (fid (fir .nil))) ?_); refine A1 12 rfl (asg ⟨_, rfl, ?_⟩)
        refine a_end ?_; refine seq_normal ?_; refine kp [10, 9, 4, 3, 2] ?_; refine sr ?_; refine o1 (mv ?_); refine o1 (f_not ?_); refine nx ?_; refine cd (fun h15 => ?_) (fun h15 => ?_)
        · (try simp only [nrm, Int.reduceEq, Int.reduceNe, Int.reduceLT, Int.reduceLE] at h15)
          refine kp [] ?_; refine sr ?_; refine o1 (asg ?_); refine nx ?_; refine runs_ret ?_; refine inb_ret ?_; refine seq_ret ?_; refine seq_ret ?_; refine inb_ret ?_; refine seq_ret ?_; refine fin_ret ?_; refine fin_d1 rfl rfl ?_
          rw [Trm.same_eq]; rw [sameT_false hget hget2 h15]; simp
        (try simp only [nrm, Int.reduceEq, Int.reduceNe, Int.reduceLT, Int.reduceLE] at h15); refine runs_skip ?_; refine inb_normal ?_; refine seq_normal ?_; refine runs_region ?_; refine o1 (mv ?_); refine o1 (iad ?_); refine o1 (asg ?_)
        refine ops_nil ?_; refine seq_back ?_; refine back_i (j + 1) rfl ?_ ?_
        · exact ⟨⟨by omega, by rw [sameT_take hget hget2]; simp [hinv.2, h15]⟩, by omega⟩
        · refine mo ?_ (sly (sly (sly (sly slz))))
          repeat (first | exact boz | refine boc ?_)

theorem sameTerm_spec (k m : Int) (s : ByteArray) (ls : List Lvl) (args : List Trm) (k2 m2 : Int) (s2 : ByteArray) (ls2 : List Lvl) (args2 : List Trm) (hb : (Trm.mk k m s ls args).size ≤ 1099511627776) :
    TriD Tryz.prog gl 17 [(Trm.mk k m s ls args).d, (Trm.mk k2 m2 s2 ls2 args2).d] (· = .v (.bool (Trm.same (.mk k m s ls args) (.mk k2 m2 s2 ls2 args2)))) := by
  refine triD_of_runs Tryz.func17 rfl Tryz.ntmps17 (rs := [.tmp 4]) rfl rfl rfl ?_
  refine sr ?_; refine oc (T := fun _ => False) (bx ti31 ?_ (hl := by simp only [List.length_cons, List.length_nil, Nat.reduceAdd]; rfl))
  refine oc (T := fun _ => False) (bx ti31 ?_ (hl := by simp only [List.length_cons, List.length_nil, Nat.reduceAdd]; rfl)); refine o1 (asg ?_); refine nx ?_; refine sr ?_; refine o1 (ldb ti31 ?_); refine o1 (ldb ti31 ?_)
  refine oc (cv ca55 rfl rfl (alike_spec _ k m s ls args k2 m2 s2 ls2 args2 (Nat.le_refl _) hb) (fid (fid (fir .nil))) ?_); refine o1 (asg ?_); refine nx ?_; refine runs_ret ?_; refine fin_ret ?_; refine fin_d1 rfl rfl ?_
  rfl
end Go.Proofs.YtneaancanfpdhaaGreatDoor
