/-
  What is proved here, text by text: contracts of the reference's ParseTerm, SameTerm. contracts of the program's scanner: letter, digit, run. contracts of the program's scanner: Step. contracts of the program's scanner: Fail, Take, Name, End, NewScanner. contracts of the program's scanner: Level: what the reference's reader reads. contracts of the program's level.Catch, Scanner.End; errors as data. contracts of what the program's term.Read calls: strings.CutPrefix, strconv.Atoi (a few digits), slices.Index. the contract of slices.Index over texts. the contract of the program's term.Read: what the reference's reader reads. contracts of the program's term.Parse: what the reference's ParseTerm answers. errors.As at an error that is a *api.Fault, and a target of that type: the target is set (after the kit's worked example of the toy 'toyas'). contracts of errors.As, api.Code, faulty. how great a term that was read is; contracts of termParsed, TermParses. contracts of PrintAll, PrintFile, SameDecl.
-/
import Derived.Test.YtneaancanfpdhaaGreatDoorF4
import Derived.LaidEql
import Derived.RowKitTokens
set_option linter.unusedSimpArgs false
set_option linter.unusedVariables false
namespace Go.Proofs.YtneaancanfpdhaaGreatDoor
open Go Go.Vd Go.RowKit
attribute [local irreducible] Runs OpsR OpR FloatR AnyR AnyO
variable {g gl : Nat → List D}

theorem parseTerm_spec (s : ByteArray) : TriD Tryz.prog (glT g) 9 [.v (.string s)] (· = .tup [(parseT s).1.d, .agg [.v (.int .i64 (parseT s).2.1), .v (.int .i64 (parseT s).2.2)]]) := by
  refine triD_of_runs Tryz.func9 rfl Tryz.ntmps9 (rs := [.cell 2 31, .cell 3 33]) rfl rfl rfl ?_
  refine sr ?_; refine oc (T := fun _ => False) (alc ti31 ?_ (hl := by simp only [List.length_cons, List.length_nil, Nat.reduceAdd]; rfl))
  refine oc (T := fun _ => False) (alc ti33 ?_ (hl := by simp only [List.length_cons, List.length_nil, Nat.reduceAdd]; rfl)); refine nx ?_; refine runs_seq ?_; refine sr ?_; refine o1 (mv ?_); refine o1 (le3 ut9 ?_); refine o1 (igt ?_)
  refine nx ?_; refine cd (fun h1 => ?_) (fun h1 => ?_)
  · (try simp only [nrm, Int.reduceEq, Int.reduceNe, Int.reduceLT, Int.reduceLE] at h1)
    refine kp [3, 2] ?_; refine sr ?_; refine o1 (bld ti31 ?_); refine o1 (bld ti33 ?_); refine oc (sto ti31 ?_); refine oc (sto ti33 ?_); refine nx ?_; refine runs_ret ?_; refine seq_ret ?_; refine fin_ret ?_
    refine fin_dl ⟨_, _, rfl, (from_cell rfl rfl ti31 rfl rfl rfl rfl), ⟨_, _, rfl, (from_cell rfl rfl ti33 rfl rfl rfl rfl), rfl⟩⟩ rfl (.tup [zeroT.d, .agg [.v (.int .i64 2), .v (.int .i64 0)]]) (by repeat (first | exact .refl _ | exact .nil | refine .agg ?_ | refine .tup ?_ | refine .cons ?_ ?_)) ?_
    unfold parseT; rw [if_pos (by omega)]
  (try simp only [nrm, Int.reduceEq, Int.reduceNe, Int.reduceLT, Int.reduceLE] at h1); refine runs_skip ?_; refine seq_normal ?_; refine sr ?_; refine o1 (mv ?_); refine o1 (bld ti71 ?_)
  refine oc (T := fun _ => False) (bx ti71 ?_ (hl := by simp only [List.length_cons, List.length_nil, Nat.reduceAdd]; rfl)); refine o1 (asg ?_); refine nx ?_; refine runs_seq ?_; refine kp [4, 3, 2] ?_
  obtain ⟨k1, n1, s1, l1, a1, hX⟩ := Trm.case (termR (s.size + 1) s ⟨0, none⟩).1
  have hs : s.size ≤ 1099511627776 := by omega
  have hle := termR_le (s := s) (s.size + 1) ⟨0, none⟩ (Nat.zero_le _)
  refine runs_region ?_; refine o1 (mv ?_); refine oc (op_callo ca42 rfl rfl rfl rfl (term_spec s hs (s.size + 1) ⟨0, none⟩ (Nat.zero_le _) (by simp)) [2] (boc .nil) rfl rfl rfl rfl (fir .nil) (fun s ob' hq => ?_) (fun s ob' hq => ?_))
  rotate_left
  · first | exact hq.elim | cases hq.1
  obtain ⟨hq1, rfl⟩ := hq; rw [hX] at hq1; cases hq1; refine ⟨_, _, _, _, _, rfl, rfl, rfl, rfl, rfl, ?_⟩; refine oc (T := fun _ => False) (alc ti31 ?_ (hl := by simp only [List.length_cons, List.length_nil, Nat.reduceAdd]; rfl))
  refine oc (sto ti31 ?_); refine nx ?_; refine sr ?_; refine o1 (mv ?_); refine oc (ck ca43 rfl rfl (done_spec s (termR (s.size + 1) s ⟨0, none⟩).2 hs hle.2) [2] rfl (boc .nil) (fir .nil) ?_)
  refine oc (T := fun _ => False) (alc ti33 ?_ (hl := by simp only [List.length_cons, List.length_nil, Nat.reduceAdd]; rfl)); refine oc (sto ti33 ?_); refine nx ?_; refine runs_seq ?_; refine kp [6, 5, 3, 2] ?_; refine sr ?_
  refine o1 (fdb ti33 ?_); refine o1 (ldb ti3 ?_); refine o1 (ine ?_); refine nx ?_; refine cdf (fun h6 => ?_) (fun h6 => ?_)
  · (try simp only [nrm, Int.reduceEq, Int.reduceNe, Int.reduceLT, Int.reduceLE] at h6)
    refine runs_skip ?_; refine seq_normal ?_; refine runs_seq ?_; refine a_start ?_ (hm := by exact mixed); refine A1 0 rfl (ldb ti31 ⟨_, rfl, ?_⟩); refine A1 1 rfl (ldb ti33 ⟨_, rfl, ?_⟩); refine A2 2 rfl (sto ti31 ?_)
    refine A2 3 rfl (sto ti33 ?_); refine a_end ?_; refine seq_normal ?_; refine runs_ret ?_; refine fin_ret ?_
    refine fin_dl ⟨_, _, rfl, (from_cell rfl rfl ti31 rfl rfl rfl rfl), ⟨_, _, rfl, (from_cell rfl rfl ti33 rfl rfl rfl rfl), rfl⟩⟩ rfl (.tup [(Trm.mk k1 n1 s1 l1 a1).d, .agg [.v (.int .i64 (fcode (doneR s (termR (s.size + 1) s ⟨0, none⟩).2).f)), .v (.int .i64 (fat (doneR s (termR (s.size + 1) s ⟨0, none⟩).2).f))]]) (by exact .refl _) ?_
    rw [parseT_good (by omega) h6, hX]
  (try simp only [nrm, Int.reduceEq, Int.reduceNe, Int.reduceLT, Int.reduceLE] at h6); refine runs_seq ?_; refine kp [6, 3, 2] ?_; refine a_start ?_ (hm := by exact mixed); refine A1 0 rfl (bld ti31 ⟨_, rfl, ?_⟩)
  refine A1 1 rfl (ldb ti33 ⟨_, rfl, ?_⟩); refine A2 2 rfl (sto ti31 ?_); refine A2 3 rfl (sto ti33 ?_); refine a_end ?_; refine seq_normal ?_; refine runs_ret ?_; refine seq_ret ?_; refine fin_ret ?_
  refine fin_dl ⟨_, _, rfl, (from_cell rfl rfl ti31 rfl rfl rfl rfl), ⟨_, _, rfl, (from_cell rfl rfl ti33 rfl rfl rfl rfl), rfl⟩⟩ rfl (.tup [zeroT.d, .agg [.v (.int .i64 (fcode (doneR s (termR (s.size + 1) s ⟨0, none⟩).2).f)), .v (.int .i64 (fat (doneR s (termR (s.size + 1) s ⟨0, none⟩).2).f))]]) (by repeat (first | exact .refl _ | exact .nil | refine .agg ?_ | refine .tup ?_ | refine .cons ?_ ?_)) ?_
  rw [parseT_bad (by omega) h6]

theorem alike_spec : ∀ (n : Nat) (k m : Int) (s : ByteArray) (ls : List Lvl) (args : List Trm) (k2 m2 : Int) (s2 : ByteArray) (ls2 : List Lvl) (args2 : List Trm), (Trm.mk k m s ls args).size ≤ n → (Trm.mk k m s ls args).size ≤ 1099511627776 →
    TriD Tryz.prog gl 55 [(Trm.mk k m s ls args).d, (Trm.mk k2 m2 s2 ls2 args2).d, .v (.bool false)] (· = .v (.bool (Trm.same (.mk k m s ls args) (.mk k2 m2 s2 ls2 args2)))) := by
  intro n
  induction n with
  | zero => intro k m s ls args k2 m2 s2 ls2 args2 h; simp [Trm.size] at h
  | succ n ih =>
    intro k m s ls args k2 m2 s2 ls2 args2 hn hb
    have hsz : sizesT args ≤ n := by simp [Trm.size] at hn; omega
    have hlen := trms_len args
    have hlen2 := trms_len args2
    have hlb := trms_size args
    have hlenL := lvls_len ls
    have hlenL2 := lvls_len ls2
    have hlbL := lvls_size ls
    simp only [Trm.size] at hb
    refine triD_of_runs Tryz.func55 rfl Tryz.ntmps55 (rs := [.tmp 6]) rfl rfl rfl ?_
    refine sr ?_; refine oc (T := fun _ => False) (bx ti31 ?_ (hl := by simp only [List.length_cons, List.length_nil, Nat.reduceAdd]; rfl))
    refine oc (T := fun _ => False) (bx ti31 ?_ (hl := by simp only [List.length_cons, List.length_nil, Nat.reduceAdd]; rfl)); refine o1 (asg ?_); refine nx ?_; refine runs_seq ?_; refine sr ?_; refine o1 (fdb ti31 ?_); refine o1 (ldb ti3 ?_)
    refine o1 (fdb ti31 ?_); refine o1 (ldb ti3 ?_); refine o1 (ine ?_); refine o1 (mv ?_)
    apply ops_or (yt := 21) (d := 16) 5 rfl rfl rfl (.none rfl) rfl rfl
    case h1 =>
      intro hb10 hK
      have hc := hb10; (try simp only [nrm, Int.reduceEq, Int.reduceNe, Int.reduceLT, Int.reduceLE] at hc)
      refine gye ?_ (hbw := by exact hb10); refine o1 (fdb ti31 ?_); refine gye ?_ (hbw := by exact hb10); refine o1 (ldb ti3 ?_); refine gye ?_ (hbw := by exact hb10); refine o1 (fdb ti31 ?_); refine gye ?_ (hbw := by exact hb10)
      refine o1 (ldb ti3 ?_); refine gye ?_ (hbw := by exact hb10); refine o1 (ine ?_); exact hK [_, _, _, _, _] rfl rfl
    case h2 =>
      intro hb10 hK; refine gno ?_ (hbw := by exact hb10); refine gno ?_ (hbw := by exact hb10); refine gno ?_ (hbw := by exact hb10); refine gno ?_ (hbw := by exact hb10); refine gno ?_ (hbw := by exact hb10); exact hK [_, _, _, _, _] rfl
    refine o1 (mv ?_)
    apply ops_or (yt := 28) (d := 23) 5 rfl rfl rfl (.none rfl) rfl rfl
    case h1 =>
      intro hb24 hK
      have hc := hb24; (try simp only [nrm, Int.reduceEq, Int.reduceNe, Int.reduceLT, Int.reduceLE] at hc)
      refine gye ?_ (hbw := by exact hb24); refine o1 (fdb ti31 ?_); refine gye ?_ (hbw := by exact hb24); refine o1 (ldb ti9 ?_); refine gye ?_ (hbw := by exact hb24); refine o1 (fdb ti31 ?_); refine gye ?_ (hbw := by exact hb24)
      refine o1 (ldb ti9 ?_); refine gye ?_ (hbw := by exact hb24); refine o1 (sne ?_); exact hK [_, _, _, _, _] rfl rfl
    case h2 =>
      intro hb24 hK; refine gno ?_ (hbw := by exact hb24); refine gno ?_ (hbw := by exact hb24); refine gno ?_ (hbw := by exact hb24); refine gno ?_ (hbw := by exact hb24); refine gno ?_ (hbw := by exact hb24); exact hK [_, _, _, _, _] rfl
    refine o1 (mv ?_)
    apply ops_or (yt := 37) (d := 30) 7 rfl rfl rfl (.none rfl) rfl rfl
    case h1 =>
      intro hb38 hK
      have hc := hb38; (try simp only [nrm, Int.reduceEq, Int.reduceNe, Int.reduceLT, Int.reduceLE] at hc)
      refine gye ?_ (hbw := by exact hb38); refine o1 (fdb ti31 ?_); refine gye ?_ (hbw := by exact hb38); refine o1 (ldb ti28 ?_); refine gye ?_ (hbw := by exact hb38); refine o1 (le1 us28 ?_); refine gye ?_ (hbw := by exact hb38)
      refine o1 (fdb ti31 ?_); refine gye ?_ (hbw := by exact hb38); refine o1 (ldb ti28 ?_); refine gye ?_ (hbw := by exact hb38); refine o1 (le1 us28 ?_); refine gye ?_ (hbw := by exact hb38); refine o1 (ine ?_)
      exact hK [_, _, _, _, _, _, _] rfl rfl
    case h2 =>
      intro hb38 hK; refine gno ?_ (hbw := by exact hb38); refine gno ?_ (hbw := by exact hb38); refine gno ?_ (hbw := by exact hb38); refine gno ?_ (hbw := by exact hb38); refine gno ?_ (hbw := by exact hb38); refine gno ?_ (hbw := by exact hb38)
      refine gno ?_ (hbw := by exact hb38); exact hK [_, _, _, _, _, _, _] rfl
    refine o1 (mv ?_)
    apply ops_or (yt := 46) (d := 39) 7 rfl rfl rfl (.none rfl) rfl rfl
    case h1 =>
      intro hb56 hK
      have hc := hb56; (try simp only [nrm, Int.reduceEq, Int.reduceNe, Int.reduceLT, Int.reduceLE] at hc)
      refine gye ?_ (hbw := by exact hb56); refine o1 (fdb ti31 ?_); refine gye ?_ (hbw := by exact hb56); refine o1 (ldb ti29 ?_); refine gye ?_ (hbw := by exact hb56); refine o1 (le1 us29 ?_); refine gye ?_ (hbw := by exact hb56)
      refine o1 (fdb ti31 ?_); refine gye ?_ (hbw := by exact hb56); refine o1 (ldb ti29 ?_); refine gye ?_ (hbw := by exact hb56); refine o1 (le1 us29 ?_); refine gye ?_ (hbw := by exact hb56); refine o1 (ine ?_)
      exact hK [_, _, _, _, _, _, _] rfl rfl
    case h2 =>
      intro hb56 hK; refine gno ?_ (hbw := by exact hb56); refine gno ?_ (hbw := by exact hb56); refine gno ?_ (hbw := by exact hb56); refine gno ?_ (hbw := by exact hb56); refine gno ?_ (hbw := by exact hb56); refine gno ?_ (hbw := by exact hb56)
      refine gno ?_ (hbw := by exact hb56); exact hK [_, _, _, _, _, _, _] rfl
    refine nx ?_; refine cd (fun h1 => ?_) (fun h1 => ?_)
    · (try simp only [nrm, Int.reduceEq, Int.reduceNe, Int.reduceLT, Int.reduceLE] at h1)
      refine kp [] ?_; refine sr ?_; refine o1 (asg ?_); refine nx ?_; refine runs_ret ?_; refine seq_ret ?_; refine fin_ret ?_; refine fin_d1 rfl rfl ?_
      rw [Trm.same_eq]
      rcases h1 with (((h | h) | h) | h) | h
      · simp [h]
      · simp [h]
      · simp [h]
      · have : sameL ls ls2 = false := by
          cases hs : sameL ls ls2 with
          | false => rfl
          | true => exact absurd (by have := sameL_len hs; omega) h
        simp [this]
      · have : sameT args args2 = false := by
          cases hs : sameT args args2 with
          | false => rfl
          | true => exact absurd (by have := sameT_len hs; omega) h
        simp [this]
    (try simp only [nrm, Int.reduceEq, Int.reduceNe, Int.reduceLT, Int.reduceLE] at h1); refine runs_skip ?_; refine seq_normal ?_; refine runs_seq ?_; refine kp [4, 3, 2] ?_; refine sr ?_; refine o1 (asg ?_); refine nx ?_; refine runs_block ?_
    apply runs_loop_c (ι := Nat) (fun i => [(7, int i)]) [4, 3, 2] (fun i => i ≤ ls.length ∧ sameL (ls.take i) (ls2.take i) = true) (fun i => ls.length - i) (0)
    case hk => exact rfl
    case hI =>
      exact ⟨Nat.zero_le _, by simp [sameL]⟩
    case hm =>
      refine mo ?_ (sly (sly (sly (sly slz))))
      repeat (first | exact boz | refine boc ?_)
    case h =>
      rintro i hinv
      try dsimp only at hinv
      refine kp [7, 4, 3, 2] ?_; refine runs_seq ?_; refine sr ?_; refine o1 (mv ?_); refine o1 (fdb ti31 ?_); refine o1 (ldb ti28 ?_); refine o1 (le1 us28 ?_); refine o1 (ilt ?_); refine nx ?_; refine cd (fun h4 => ?_) (fun h4 => ?_)
      · (try simp only [nrm, Int.reduceEq, Int.reduceNe, Int.reduceLT, Int.reduceLE] at h4)
        refine runs_skip ?_; refine seq_normal ?_; refine runs_seq ?_; refine runs_block ?_; refine runs_seq ?_; refine kp [7, 4, 3, 2] ?_; obtain ⟨k', s', a', hget⟩ := lvl_get (show i < ls.length by omega)
        obtain ⟨k2', s2', a2', hget2⟩ := lvl_get (show i < ls2.length by omega)
        have hsz' := size_get hget
        refine a_start ?_ (hm := by exact mixed); refine A1 0 rfl (fdb ti31 ⟨_, rfl, ?_⟩); refine A1 1 rfl (ldb ti28 ⟨_, rfl, ?_⟩); refine A1 2 rfl (mv ⟨_, rfl, ?_⟩); refine A1 3 rfl (ixs us28 te28 ⟨_, rfl, ?_⟩ (he := by exact (lvl_at hget)))
        refine A1 4 rfl (ldc ti45 ⟨_, rfl, ?_⟩); refine A1 5 rfl (fdb ti31 ⟨_, rfl, ?_⟩); refine A1 6 rfl (ldb ti28 ⟨_, rfl, ?_⟩); refine A1 7 rfl (mv ⟨_, rfl, ?_⟩); refine A1 8 rfl (ixs us28 te28 ⟨_, rfl, ?_⟩ (he := by exact (lvl_at hget2)))
        refine A1 9 rfl (ldc ti45 ⟨_, rfl, ?_⟩); refine A2 10 rfl (cv ca94 rfl rfl (sameLvl_spec _ k' s' a' k2' s2' a2' (Nat.le_refl _) (by omega)) (fid (fid .nil)) ?_); refine A1 11 rfl (asg ⟨_, rfl, ?_⟩); refine a_end ?_; refine seq_normal ?_
        refine runs_seq ?_; refine kp [8, 7, 4, 3, 2] ?_; refine sr ?_; refine o1 (mv ?_); refine o1 (f_not ?_); refine o1 (mv ?_)
        apply ops_and (yt := 69) (d := 68) 1 rfl rfl rfl (.none rfl) rfl rfl
        case h1 =>
          intro hb5 hK
          have hc := hb5; (try simp only [nrm, Int.reduceEq, Int.reduceNe, Int.reduceLT, Int.reduceLE] at hc)
          refine gye ?_ (hbw := by exact hb5); refine o1 (mv ?_); exact hK [_] rfl rfl
        case h2 =>
          intro hb5 hK; refine gno ?_ (hbw := by exact hb5); exact hK [_] rfl
        refine nx ?_; refine cd (fun h7 => ?_) (fun h7 => ?_)
        · simp only [nrm, Int.reduceEq, Int.reduceNe, Int.reduceLT, Int.reduceLE] at h7
        (try simp only [nrm, Int.reduceEq, Int.reduceNe, Int.reduceLT, Int.reduceLE] at h7); refine runs_skip ?_; refine seq_normal ?_; refine kp [8, 7, 4, 3, 2] ?_; refine sr ?_; refine o1 (mv ?_); refine o1 (f_not ?_); refine nx ?_
        refine cd (fun h9 => ?_) (fun h9 => ?_)
        · (try simp only [nrm, Int.reduceEq, Int.reduceNe, Int.reduceLT, Int.reduceLE] at h9)
          refine kp [] ?_; refine sr ?_; refine o1 (asg ?_); refine nx ?_; refine runs_ret ?_; refine inb_ret ?_; refine seq_ret ?_; refine seq_ret ?_; refine inb_ret ?_; refine seq_ret ?_; refine fin_ret ?_; refine fin_d1 rfl rfl ?_
          rw [Trm.same_eq]; rw [sameL_false hget hget2 h9]; simp
        (try simp only [nrm, Int.reduceEq, Int.reduceNe, Int.reduceLT, Int.reduceLE] at h9); refine runs_skip ?_; refine inb_normal ?_; refine seq_normal ?_; refine runs_region ?_; refine o1 (mv ?_); refine o1 (iad ?_); refine o1 (asg ?_)
        refine ops_nil ?_; refine seq_back ?_; refine back_i (i + 1) rfl ?_ ?_
        · exact ⟨⟨by omega, by rw [sameL_take hget hget2]; simp [hinv.2, h9]⟩, by omega⟩
        · refine mo ?_ (sly (sly (sly (sly slz))))
          repeat (first | exact boz | refine boc ?_)
      (try simp only [nrm, Int.reduceEq, Int.reduceNe, Int.reduceLT, Int.reduceLE] at h4); refine runs_exit ?_; refine seq_exit ?_; refine seq_exit ?_; refine inb_exit ?_; refine seq_normal ?_; refine runs_seq ?_; refine runs_seq ?_
      refine kp [4, 3, 2] ?_
      have hL := hinv.2
      rw [List.take_of_length_le (by omega), List.take_of_length_le (by omega)] at hL
      refine runs_region ?_; refine o1 (asg ?_); refine nx ?_; refine runs_block ?_
      apply runs_loop_c (ι := Nat) (fun j => [(9, int j)]) [4, 3, 2] (fun j => j ≤ args.length ∧ sameT (args.take j) (args2.take j) = true) (fun j => args.length - j) (0)
      case hk => exact rfl
      case hI =>
        exact ⟨Nat.zero_le _, by simp [sameT]⟩
      case hm =>
        refine mo ?_ (sly (sly (sly (sly slz))))
        repeat (first | exact boz | refine boc ?_)
      case h =>
        rintro j hinv
        try dsimp only at hinv
        refine kp [9, 4, 3, 2] ?_; refine runs_seq ?_; refine sr ?_; refine o1 (mv ?_); refine o1 (fdb ti31 ?_); refine o1 (ldb ti29 ?_); refine o1 (le1 us29 ?_); refine o1 (ilt ?_); refine nx ?_; refine cdf (fun h12 => ?_) (fun h12 => ?_)
        · (try simp only [nrm, Int.reduceEq, Int.reduceNe, Int.reduceLT, Int.reduceLE] at h12)
          refine runs_exit ?_; refine seq_exit ?_; refine seq_exit ?_; refine inb_exit ?_; refine seq_normal ?_; refine kp [] ?_; refine sr ?_; refine o1 (asg ?_); refine nx ?_; refine runs_ret ?_; refine fin_ret ?_; refine fin_d1 rfl rfl ?_
          rw [Trm.same_eq]; have h9 := hinv.2; rw [List.take_of_length_le (by omega), List.take_of_length_le (by omega)] at h9; simp [h9, h1, hL]
        (try simp only [nrm, Int.reduceEq, Int.reduceNe, Int.reduceLT, Int.reduceLE] at h12); refine runs_skip ?_; refine seq_normal ?_; refine runs_seq ?_; refine runs_block ?_; refine runs_seq ?_; refine kp [9, 4, 3, 2] ?_
        obtain ⟨k', n', s', l', a', hget⟩ := trm_get (show j < args.length by omega); obtain ⟨k2', n2', s2', l2', a2', hget2⟩ := trm_get (show j < args2.length by omega)
        have hsz' := sizeT_get hget
        refine a_start ?_ (hm := by exact mixed); refine A1 0 rfl (fdb ti31 ⟨_, rfl, ?_⟩); refine A1 1 rfl (ldb ti29 ⟨_, rfl, ?_⟩); refine A1 2 rfl (mv ⟨_, rfl, ?_⟩); refine A1 3 rfl (ixs us29 te29 ⟨_, rfl, ?_⟩ (he := by exact (trm_at hget)))
        refine A1 4 rfl (ldc ti31 ⟨_, rfl, ?_⟩); refine A1 5 rfl (fdb ti31 ⟨_, rfl, ?_⟩); refine A1 6 rfl (ldb ti29 ⟨_, rfl, ?_⟩); refine A1 7 rfl (mv ⟨_, rfl, ?_⟩); refine A1 8 rfl (ixs us29 te29 ⟨_, rfl, ?_⟩ (he := by exact (trm_at hget2)))
        refine A1 9 rfl (ldc ti31 ⟨_, rfl, ?_⟩); refine A1 10 rfl (mv ⟨_, rfl, ?_⟩); refine A2 11 rfl (cv ca55 rfl rfl (ih k' n' s' l' a' k2' n2' s2' l2' a2' (by omega) (by omega)) (fid (fid (fir .nil))) ?_); refine A1 12 rfl (asg ⟨_, rfl, ?_⟩)
        refine a_end ?_; refine seq_normal ?_; refine kp [10, 9, 4, 3, 2] ?_; refine sr ?_; refine o1 (mv ?_); refine o1 (f_not ?_); refine nx ?_; refine cd (fun h15 => ?_) (fun h15 => ?_)
        · (try simp only [nrm, Int.reduceEq, Int.reduceNe, Int.reduceLT, Int.reduceLE] at h15)
          refine kp [] ?_; refine sr ?_; refine o1 (asg ?_); refine nx ?_; refine runs_ret ?_; refine inb_ret ?_; refine seq_ret ?_; refine seq_ret ?_; refine inb_ret ?_; refine seq_ret ?_; refine fin_ret ?_; refine fin_d1 rfl rfl ?_
          rw [Trm.same_eq]; rw [sameT_false hget hget2 h15]; simp
        (try simp only [nrm, Int.reduceEq, Int.reduceNe, Int.reduceLT, Int.reduceLE] at h15); refine runs_skip ?_; refine inb_normal ?_; refine seq_normal ?_; refine runs_region ?_; refine o1 (mv ?_); refine o1 (iad ?_); refine o1 (asg ?_)
        refine ops_nil ?_; refine seq_back ?_; refine back_i (j + 1) rfl ?_ ?_
        · exact ⟨⟨by omega, by rw [sameT_take hget hget2]; simp [hinv.2, h15]⟩, by omega⟩
        · refine mo ?_ (sly (sly (sly (sly slz))))
          repeat (first | exact boz | refine boc ?_)

theorem sameTerm_spec (k m : Int) (s : ByteArray) (ls : List Lvl) (args : List Trm) (k2 m2 : Int) (s2 : ByteArray) (ls2 : List Lvl) (args2 : List Trm) (hb : (Trm.mk k m s ls args).size ≤ 1099511627776) :
    TriD Tryz.prog gl 17 [(Trm.mk k m s ls args).d, (Trm.mk k2 m2 s2 ls2 args2).d] (· = .v (.bool (Trm.same (.mk k m s ls args) (.mk k2 m2 s2 ls2 args2)))) := by
  refine triD_of_runs Tryz.func17 rfl Tryz.ntmps17 (rs := [.tmp 4]) rfl rfl rfl ?_
  refine sr ?_; refine oc (T := fun _ => False) (bx ti31 ?_ (hl := by simp only [List.length_cons, List.length_nil, Nat.reduceAdd]; rfl))
  refine oc (T := fun _ => False) (bx ti31 ?_ (hl := by simp only [List.length_cons, List.length_nil, Nat.reduceAdd]; rfl)); refine o1 (asg ?_); refine nx ?_; refine sr ?_; refine o1 (ldb ti31 ?_); refine o1 (ldb ti31 ?_)
  refine oc (cv ca55 rfl rfl (alike_spec _ k m s ls args k2 m2 s2 ls2 args2 (Nat.le_refl _) hb) (fid (fid (fir .nil))) ?_); refine o1 (asg ?_); refine nx ?_; refine runs_ret ?_; refine fin_ret ?_; refine fin_d1 rfl rfl ?_
  rfl
end Go.Proofs.YtneaancanfpdhaaGreatDoor
namespace Go.Proofs.YtneaancanfpdhaaGreatDoor
open Go Go.Vd Go.RowKit
attribute [local irreducible] Runs OpsR OpR FloatR AnyR AnyO
variable {gl : Nat → List D}

theorem or8_letter : ∀ c : Nat, c < 256 → ((97 ≤ or8 c 32 ∧ or8 c 32 ≤ 122) ↔ ((97 ≤ c ∧ c ≤ 122) ∨ (65 ≤ c ∧ c ≤ 90))) := by decide +kernel

attribute [local irreducible] or8
theorem digit_spec (c : Int) : TriD Tryz.prog gl 122 [.v (.int .u8 c)] (· = .v (.bool (digB c))) := by
  refine triD_of_runs Tryz.func122 rfl Tryz.ntmps122 (rs := [.tmp 2]) rfl rfl rfl ?_
  refine sr ?_; refine o1 (asg ?_); refine nx ?_; refine sr ?_; refine o1 (mv ?_); refine o1 (ige ?_); refine o1 (mv ?_)
  apply ops_and (yt := 7) (d := 5) 2 rfl rfl rfl (.none rfl) rfl rfl
  case h1 =>
    intro hb5 hK
    have hc := hb5; (try simp only [nrm, Int.reduceEq, Int.reduceNe, Int.reduceLT, Int.reduceLE] at hc)
    refine gye ?_ (hbw := by exact hb5); refine o1 (mv ?_); refine gye ?_ (hbw := by exact hb5); refine o1 (ile ?_); exact hK [_, _] rfl rfl
  case h2 =>
    intro hb5 hK; refine gno ?_ (hbw := by exact hb5); refine gno ?_ (hbw := by exact hb5); exact hK [_, _] rfl
  refine o1 (asg ?_); refine nx ?_; refine runs_ret ?_; refine fin_ret ?_; refine fin_d1 rfl rfl ?_; exact congrArg (fun b => D.v (.bool b)) (by rw [Bool.eq_iff_iff]; simp [digB])

theorem letter_spec (c : Int) (h0 : 0 ≤ c) (h1 : c < 256) : TriD Tryz.prog gl 120 [.v (.int .u8 c)] (· = .v (.bool (nameB c true))) := by
  obtain ⟨k, rfl⟩ : ∃ k : Nat, c = k := ⟨c.toNat, by omega⟩
  have hl := or8_letter k (by omega)
  refine triD_of_runs Tryz.func120 rfl Tryz.ntmps120 (rs := [.tmp 2]) rfl rfl rfl ?_
  refine sr ?_; refine o1 (asg ?_); refine nx ?_; refine sr ?_; refine o1 (mv ?_); refine o1 (f_or8 ?_); refine o1 (ige ?_); refine o1 (mv ?_)
  apply ops_and (yt := 9) (d := 6) 3 rfl rfl rfl (.none rfl) rfl rfl
  case h1 =>
    intro hb7 hK
    have hc := hb7; (try simp only [nrm, Int.reduceEq, Int.reduceNe, Int.reduceLT, Int.reduceLE] at hc)
    refine gye ?_ (hbw := by exact hb7); refine o1 (mv ?_); refine gye ?_ (hbw := by exact hb7); refine o1 (f_or8 ?_); refine gye ?_ (hbw := by exact hb7); refine o1 (ile ?_); exact hK [_, _, _] rfl rfl
  case h2 =>
    intro hb7 hK; refine gno ?_ (hbw := by exact hb7); refine gno ?_ (hbw := by exact hb7); refine gno ?_ (hbw := by exact hb7); exact hK [_, _, _] rfl
  refine o1 (mv ?_)
  apply ops_or (yt := 13) (d := 11) 2 rfl rfl rfl (.none rfl) rfl rfl
  case h1 =>
    intro hb16 hK
    have hc := hb16; (try simp only [nrm, Int.reduceEq, Int.reduceNe, Int.reduceLT, Int.reduceLE] at hc)
    refine gye ?_ (hbw := by exact hb16); refine o1 (mv ?_); refine gye ?_ (hbw := by exact hb16); refine o1 (ieq ?_); exact hK [_, _] rfl rfl
  case h2 =>
    intro hb16 hK; refine gno ?_ (hbw := by exact hb16); refine gno ?_ (hbw := by exact hb16); exact hK [_, _] rfl
  refine o1 (asg ?_); refine nx ?_; refine runs_ret ?_; refine fin_ret ?_; refine fin_d1 rfl rfl ?_; exact congrArg (fun b => D.v (.bool b)) (by rw [Bool.eq_iff_iff]; simp [nameB]; omega)

theorem ws1_spec (c : Int) : TriD Tryz.prog gl 119 [.v (.int .u8 c)] (· = .v (.bool (wsB c))) := by
  refine triD_of_runs Tryz.func119 rfl Tryz.ntmps119 (rs := [.tmp 2]) rfl rfl rfl ?_
  refine sr ?_; refine o1 (asg ?_); refine nx ?_; refine sr ?_; refine o1 (mv ?_); refine o1 (ieq ?_); refine o1 (mv ?_)
  apply ops_or (yt := 7) (d := 5) 2 rfl rfl rfl (.none rfl) rfl rfl
  case h1 =>
    intro hb4 hK
    have hc := hb4; (try simp only [nrm, Int.reduceEq, Int.reduceNe, Int.reduceLT, Int.reduceLE] at hc)
    refine gye ?_ (hbw := by exact hb4); refine o1 (mv ?_); refine gye ?_ (hbw := by exact hb4); refine o1 (ieq ?_); exact hK [_, _] rfl rfl
  case h2 =>
    intro hb4 hK; refine gno ?_ (hbw := by exact hb4); refine gno ?_ (hbw := by exact hb4); exact hK [_, _] rfl
  refine o1 (mv ?_)
  apply ops_or (yt := 11) (d := 9) 2 rfl rfl rfl (.none rfl) rfl rfl
  case h1 =>
    intro hb12 hK
    have hc := hb12; (try simp only [nrm, Int.reduceEq, Int.reduceNe, Int.reduceLT, Int.reduceLE] at hc)
    refine gye ?_ (hbw := by exact hb12); refine o1 (mv ?_); refine gye ?_ (hbw := by exact hb12); refine o1 (ieq ?_); exact hK [_, _] rfl rfl
  case h2 =>
    intro hb12 hK; refine gno ?_ (hbw := by exact hb12); refine gno ?_ (hbw := by exact hb12); exact hK [_, _] rfl
  refine o1 (asg ?_); refine nx ?_; refine runs_ret ?_; refine fin_ret ?_; refine fin_d1 rfl rfl ?_; exact congrArg (fun b => D.v (.bool b)) (by rw [Bool.eq_iff_iff]; simp [wsB, or_assoc])

theorem nb2_spec (c : Int) (h0 : 0 ≤ c) (h1 : c < 256) : TriD Tryz.prog gl 121 [.v (.int .u8 c)] (· = .v (.bool (nameB c false))) := by
  refine triD_of_runs Tryz.func121 rfl Tryz.ntmps121 (rs := [.tmp 2]) rfl rfl rfl ?_
  refine sr ?_; refine o1 (asg ?_); refine nx ?_; refine sr ?_; refine o1 (mv ?_); refine oc (cv ca120 rfl rfl (letter_spec c h0 h1) (fir .nil) ?_); refine o1 (mv ?_)
  apply ops_or (yt := 7) (d := 5) 2 rfl rfl rfl (.none rfl) rfl rfl
  case h1 =>
    intro hb4 hK
    have hc := hb4; (try simp only [nrm, Int.reduceEq, Int.reduceNe, Int.reduceLT, Int.reduceLE] at hc)
    refine gye ?_ (hbw := by exact hb4); refine o1 (mv ?_); refine gye ?_ (hbw := by exact hb4); refine oc (cv ca122 rfl rfl (digit_spec c) (fir .nil) ?_); exact hK [_, _] rfl rfl
  case h2 =>
    intro hb4 hK; refine gno ?_ (hbw := by exact hb4); refine gno ?_ (hbw := by exact hb4); exact hK [_, _] rfl
  refine o1 (mv ?_)
  apply ops_or (yt := 11) (d := 9) 2 rfl rfl rfl (.none rfl) rfl rfl
  case h1 =>
    intro hb12 hK
    have hc := hb12; (try simp only [nrm, Int.reduceEq, Int.reduceNe, Int.reduceLT, Int.reduceLE] at hc)
    refine gye ?_ (hbw := by exact hb12); refine o1 (mv ?_); refine gye ?_ (hbw := by exact hb12); refine o1 (ieq ?_); exact hK [_, _] rfl rfl
  case h2 =>
    intro hb12 hK; refine gno ?_ (hbw := by exact hb12); refine gno ?_ (hbw := by exact hb12); exact hK [_, _] rfl
  refine o1 (mv ?_)
  apply ops_or (yt := 15) (d := 13) 2 rfl rfl rfl (.none rfl) rfl rfl
  case h1 =>
    intro hb20 hK
    have hc := hb20; (try simp only [nrm, Int.reduceEq, Int.reduceNe, Int.reduceLT, Int.reduceLE] at hc)
    refine gye ?_ (hbw := by exact hb20); refine o1 (mv ?_); refine gye ?_ (hbw := by exact hb20); refine o1 (ieq ?_); exact hK [_, _] rfl rfl
  case h2 =>
    intro hb20 hK; refine gno ?_ (hbw := by exact hb20); refine gno ?_ (hbw := by exact hb20); exact hK [_, _] rfl
  refine o1 (asg ?_); refine nx ?_; refine runs_ret ?_; refine fin_ret ?_; refine fin_d1 rfl rfl ?_; exact congrArg (fun b => D.v (.bool b)) (by rw [Bool.eq_iff_iff]; simp [nameB, digB]; omega)

/-- a scanner -/
def scO (s : ByteArray) (at' : Nat) (tok : ByteArray) (pos : Nat) : Ob := .cells [.d (.v (.string s)), .d (.v (.int .i64 at')), .d (.v (.string tok)), .d (.v (.int .i64 pos))] 105

theorem byteAt_bound (s : ByteArray) (i : Nat) : 0 ≤ byteAt s i ∧ byteAt s i < 256 := by
  unfold byteAt
  have := UInt8.toNat_lt (s.data.getD i 0)
  omega

theorem run_spec (f : FuncId) (ofv : SV) (hof : ofv = .fn (.func f) [] [] ∨ ofv = .d (.v (.func (.func f) #[] #[]))) (p : Int → Bool) (hcal : callable Tryz.prog f = true) (hp : ∀ c, 0 ≤ c → c < 256 → TriD Tryz.prog gl f [.v (.int .u8 c)] (· = .v (.bool (p c)))) (s : ByteArray) (hs : s.size ≤ 1099511627776) (a b : Nat) (tok : ByteArray) (pos : Nat) (ha : a ≤ s.size) :
    Tri Tryz.prog gl 118 [scO s b tok pos] [.blk 0 0, .d (.v (.int .i64 a)), ofv] fun out ob' => out = .ret (.d (.v (.int .i64 (spanB p s a)))) ∧ ob' = [scO s b tok pos] := by
  rcases hof with rfl | rfl
  all_goals (
    unfold scO
    refine triS_of_runs Tryz.func118 rfl Tryz.ntmps118 (rs := [.tmp 6]) rfl rfl rfl 1 rfl ?_
    refine sr ?_; refine o1 (asg ?_); refine nx ?_; refine runs_seq ?_; refine runs_block ?_; refine kp [0, 1, 2] ?_
    apply runs_loop_c (ι := Nat) (fun i => [(1, int i)]) [0, 2] (fun i => i ≤ s.size ∧ spanB p s a = spanB p s i) (fun i => s.size - i) (a)
    case hk => exact rfl
    case hI =>
      exact ⟨ha, rfl⟩
    case hm =>
      refine mo ?_ (sly (sly (sly slz)))
      repeat (first | exact boz | refine boc ?_)
    case h =>
      rintro i hinv
      try dsimp only at hinv
      refine kp [1, 0, 2] ?_; refine runs_seq ?_; refine sr ?_; refine o1 (mv ?_); refine o1 (mv ?_); refine o1 (ncb ?_); refine o1 (fdb ti105 ?_); refine o1 (ldb ti9 ?_); refine o1 (le3 ut9 ?_); refine o1 (ilt ?_); refine o1 (mv ?_)
      apply ops_and (yt := 22) (d := 14) 8 rfl rfl rfl (.none rfl) rfl rfl
      case h1 =>
        intro hb15 hK
        have hc := hb15; (try simp only [nrm, Int.reduceEq, Int.reduceNe, Int.reduceLT, Int.reduceLE] at hc)
        refine gye ?_ (hbw := by exact hb15); refine o1 (mv ?_); refine gye ?_ (hbw := by exact hb15); refine o1 (mv ?_); refine gye ?_ (hbw := by exact hb15); refine o1 (ncb ?_); refine gye ?_ (hbw := by exact hb15); refine o1 (fdb ti105 ?_)
        refine gye ?_ (hbw := by exact hb15); refine o1 (ldb ti9 ?_); refine gye ?_ (hbw := by exact hb15); refine o1 (mv ?_); refine gye ?_ (hbw := by exact hb15); refine o1 (byt ut9 ?_); refine gye ?_ (hbw := by exact hb15)
        first | refine oc (T := fun _ => False) (op_callcd hcal rfl rfl rfl rfl rfl rfl rfl rfl (hp (byteAt s i) (byteAt_bound s i).1 (byteAt_bound s i).2) (fir .nil) (fun d hd => ?_)) | refine oc (T := fun _ => False) (op_callfd hcal rfl rfl rfl rfl rfl rfl (hp (byteAt s i) (byteAt_bound s i).1 (byteAt_bound s i).2) (fir .nil) (fun d hd => ?_))
        obtain rfl := hd; exact hK [_, _, _, _, _, _, _, _] rfl rfl
      case h2 =>
        intro hb15 hK; refine gno ?_ (hbw := by exact hb15); refine gno ?_ (hbw := by exact hb15); refine gno ?_ (hbw := by exact hb15); refine gno ?_ (hbw := by exact hb15); refine gno ?_ (hbw := by exact hb15); refine gno ?_ (hbw := by exact hb15)
        refine gno ?_ (hbw := by exact hb15); refine gno ?_ (hbw := by exact hb15); exact hK [_, _, _, _, _, _, _, _] rfl
      refine nx ?_; refine cd (fun h1 => ?_) (fun h1 => ?_)
      · (try simp only [nrm, Int.reduceEq, Int.reduceNe, Int.reduceLT, Int.reduceLE] at h1)
        refine runs_skip ?_; refine seq_normal ?_; refine runs_block ?_; refine kp [1, 0, 2] ?_; refine runs_region ?_; refine o1 (mv ?_); refine o1 (iad ?_); refine o1 (asg ?_); refine ops_nil ?_; refine inb_normal ?_; refine seq_back ?_
        refine back_i (i + 1) rfl ?_ ?_
        · exact ⟨⟨by omega, by rw [hinv.2, spanB_step (by omega) (by simpa using h1.2)]⟩, by omega⟩
        · refine mo ?_ (sly (sly (sly slz)))
          repeat (first | exact boz | refine boc ?_)
      (try simp only [nrm, Int.reduceEq, Int.reduceNe, Int.reduceLT, Int.reduceLE] at h1); refine runs_exit ?_; refine seq_exit ?_; refine seq_exit ?_; refine inb_exit ?_; refine seq_normal ?_; refine kp [1] ?_; refine sr ?_; refine o1 (mv ?_)
      refine o1 (asg ?_); refine nx ?_; refine runs_ret ?_; refine fin_ret ?_; refine fin_od ⟨_, _, rfl, rfl, rfl⟩ rfl ([0]) ([scO s b tok pos]) rfl rfl rfl ?_ ?_
      · repeat (first | exact boz | refine boc ?_)
      · refine ⟨?_, rfl⟩
        rw [hinv.2, spanB_end (p := i) (by rintro ⟨h5, h6⟩; rcases h1 with h1 | h1; omega; rw [h6] at h1; cases h1)]
  )
end Go.Proofs.YtneaancanfpdhaaGreatDoor
namespace Go.Proofs.YtneaancanfpdhaaGreatDoor
open Go Go.Vd Go.RowKit
attribute [local irreducible] Runs OpsR OpR FloatR AnyR AnyO
variable {gl : Nat → List D}

def stepTok (s : ByteArray) (p : Nat) : ByteArray := if (tokR s p).2.2 = true then (tokR s p).1 else ⟨#[0]⟩
def stepAt (s : ByteArray) (p : Nat) : Nat := if (tokR s p).2.2 = true then (tokR s p).2.1 + (tokR s p).1.size else p
theorem step_yes {s : ByteArray} {p : Nat} {t : ByteArray} {i : Nat} (h : tokR s p = (t, i, true)) : stepTok s p = t ∧ stepAt s p = i + t.size ∧ (tokR s p).2.1 = i := by
  unfold stepTok stepAt; rw [h]; exact ⟨rfl, rfl, rfl⟩
theorem step_no {s : ByteArray} {p : Nat} {t : ByteArray} {i : Nat} (h : tokR s p = (t, i, false)) : stepTok s p = ⟨#[0]⟩ ∧ stepAt s p = p ∧ (tokR s p).2.1 = i := by
  unfold stepTok stepAt; rw [h]; exact ⟨rfl, rfl, rfl⟩

theorem nameB_mono {c : Int} (h : nameB c true = true) : nameB c false = true := by
  simp [nameB] at h ⊢
  omega

theorem step_spec (s : ByteArray) (hs : s.size ≤ 1099511627776) (p : Nat) (hp : p ≤ s.size) (tok0 : ByteArray) (pos0 : Nat) :
    Tri Tryz.prog gl 101 [scO s p tok0 pos0] [.blk 0 0] fun out ob' => out = .ret (.d (.tup [])) ∧ ob' = [scO s (stepAt s p) (stepTok s p) (tokR s p).2.1] := by
  obtain ⟨i, hi⟩ : ∃ i, spanB wsB s p = i := ⟨_, rfl⟩
  have hil := spanB_le wsB s p hp
  rw [hi] at hil
  have hba := byteAt_bound s i
  have hw := run_spec (gl := gl) 119 _ (.inr rfl) wsB ca119 (fun c _ _ => ws1_spec c) s hs p p tok0 pos0 hp
  rw [hi] at hw
  unfold scO at hw ⊢
  refine triS_of_runs Tryz.func101 rfl Tryz.ntmps101 (rs := []) rfl rfl rfl 1 rfl ?_
  refine sr ?_; refine o1 (mv ?_); refine o1 (mv ?_); refine o1 (mv ?_); refine o1 (ncb ?_); refine o1 (fdb ti105 ?_); refine o1 (ldb ti3 ?_); refine oc (ck ca118 rfl rfl (hw) [0] rfl (boc .nil) (fir (fir (fir .nil))) ?_); refine o1 (ncb ?_)
  refine o1 (fdb ti105 ?_); refine oc (sto ti3 ?_); refine nx ?_; refine runs_seq ?_; refine runs_seq ?_; refine kp [0] ?_; refine a_start ?_ (hm := by exact mixed); refine A1 0 rfl (mv ⟨_, rfl, ?_⟩); refine A1 1 rfl (ncb ⟨_, rfl, ?_⟩)
  refine A1 2 rfl (fdb ti105 ⟨_, rfl, ?_⟩); refine A1 3 rfl (ldb ti3 ⟨_, rfl, ?_⟩); refine A1 4 rfl (mv ⟨_, rfl, ?_⟩); refine A1 5 rfl (ncb ⟨_, rfl, ?_⟩); refine A1 6 rfl (fdb ti105 ⟨_, rfl, ?_⟩); refine A1 7 rfl (ldb ti9 ⟨_, rfl, ?_⟩)
  refine A1 8 rfl (le3 ut9 ⟨_, rfl, ?_⟩); refine A1 9 rfl (ieq ⟨_, rfl, ?_⟩); refine a_end ?_; refine seq_normal ?_; refine cd (fun h1 => ?_) (fun h1 => ?_)
  · (try simp only [nrm, Int.reduceEq, Int.reduceNe, Int.reduceLT, Int.reduceLE] at h1)
    refine kp [0] ?_; refine sr ?_; refine o1 (mv ?_); refine o1 (mv ?_); refine o1 (mv ?_); refine o1 (ncb ?_); refine o1 (fdb ti105 ?_); refine o1 (ldb ti3 ?_); refine o1 (ncb ?_); refine o1 (fdb ti105 ?_); refine oc (sto ti9 ?_)
    refine o1 (ncb ?_); refine o1 (fdb ti105 ?_); refine oc (sto ti3 ?_); refine nx ?_; refine runs_ret ?_; refine seq_ret ?_; refine fin_ret ?_; refine fin_od (l := []) rfl rfl ([0]) ([scO s i .empty i]) rfl rfl rfl ?_ ?_
    · repeat (first | exact boz | refine boc ?_)
    · have h := step_yes (tok_end (show spanB wsB s p = spanB wsB s i by rw [hi, spanB_end (by omega)]) (by omega))
      refine ⟨rfl, ?_⟩
      rw [h.1, h.2.1, h.2.2]; rfl
  (try simp only [nrm, Int.reduceEq, Int.reduceNe, Int.reduceLT, Int.reduceLE] at h1); refine runs_skip ?_; refine seq_normal ?_; refine kp [0] ?_; refine sr ?_; refine o1 (mv ?_); refine o1 (ncb ?_); refine o1 (fdb ti105 ?_)
  refine o1 (ldb ti3 ?_); refine o1 (iad ?_); refine o1 (asg ?_); refine nx ?_; refine runs_seq ?_; refine runs_seq ?_; refine kp [2, 0] ?_
  have hi1 : i + 1 ≤ s.size := by omega
  have hqd := spanB_le digB s (i + 1) hi1
  have hqe := spanB_le digB s i hil.2
  have hqn := spanB_le (nameB · false) s i hil.2
  refine a_start ?_ (hm := by exact mixed); refine A1 0 rfl (mv ⟨_, rfl, ?_⟩); refine A1 1 rfl (ncb ⟨_, rfl, ?_⟩); refine A1 2 rfl (fdb ti105 ⟨_, rfl, ?_⟩); refine A1 3 rfl (ldb ti9 ⟨_, rfl, ?_⟩); refine A1 4 rfl (mv ⟨_, rfl, ?_⟩)
  refine A1 5 rfl (ncb ⟨_, rfl, ?_⟩); refine A1 6 rfl (fdb ti105 ⟨_, rfl, ?_⟩); refine A1 7 rfl (ldb ti3 ⟨_, rfl, ?_⟩); refine A1 8 rfl (byt ut9 ⟨_, rfl, ?_⟩); refine A1 9 rfl (asg ⟨_, rfl, ?_⟩); refine a_end ?_; refine seq_normal ?_
  refine runs_block ?_; refine kp [3, 2, 0] ?_; refine sr ?_; refine o1 (mv ?_); refine o1 (ieq ?_); refine o1 (mv ?_)
  apply ops_or (yt := 54) (d := 52) 2 rfl rfl rfl (.none rfl) rfl rfl
  case h1 =>
    intro hb4 hK
    have hc := hb4; (try simp only [nrm, Int.reduceEq, Int.reduceNe, Int.reduceLT, Int.reduceLE] at hc)
    refine gye ?_ (hbw := by exact hb4); refine o1 (mv ?_); refine gye ?_ (hbw := by exact hb4); refine o1 (ieq ?_); exact hK [_, _] rfl rfl
  case h2 =>
    intro hb4 hK; refine gno ?_ (hbw := by exact hb4); refine gno ?_ (hbw := by exact hb4); exact hK [_, _] rfl
  refine o1 (asg ?_); refine nx ?_; refine cd (fun h6 => ?_) (fun h6 => ?_)
  · (try simp only [nrm, Int.reduceEq, Int.reduceNe, Int.reduceLT, Int.reduceLE] at h6)
    refine runs_skip ?_; refine inb_normal ?_; refine seq_normal ?_; refine runs_seq ?_; refine kp [2, 0] ?_; refine sr ?_; refine o1 (mv ?_); refine o1 (ilt ?_); refine nx ?_; refine cd (fun h19 => ?_) (fun h19 => ?_)
    · (try simp only [nrm, Int.reduceEq, Int.reduceNe, Int.reduceLT, Int.reduceLE] at h19); contradiction
    (try simp only [nrm, Int.reduceEq, Int.reduceNe, Int.reduceLT, Int.reduceLE] at h19); refine runs_skip ?_; refine seq_normal ?_; refine a_start ?_ (hm := by exact mixed); refine A1 0 rfl (mv ⟨_, rfl, ?_⟩); refine A1 1 rfl (mv ⟨_, rfl, ?_⟩)
    refine A1 2 rfl (mv ⟨_, rfl, ?_⟩); refine A1 3 rfl (ncb ⟨_, rfl, ?_⟩); refine A1 4 rfl (fdb ti105 ⟨_, rfl, ?_⟩); refine A1 5 rfl (ldb ti9 ⟨_, rfl, ?_⟩); refine A1 6 rfl (mv ⟨_, rfl, ?_⟩); refine A1 7 rfl (ncb ⟨_, rfl, ?_⟩)
    refine A1 8 rfl (fdb ti105 ⟨_, rfl, ?_⟩); refine A1 9 rfl (ldb ti3 ⟨_, rfl, ?_⟩); refine A1 10 rfl (mv ⟨_, rfl, ?_⟩); refine A1 11 rfl (f_sub_lh ut9 ⟨_, rfl, ?_⟩); refine A1 12 rfl (mv ⟨_, rfl, ?_⟩); refine A1 13 rfl (ncb ⟨_, rfl, ?_⟩)
    refine A1 14 rfl (fdb ti105 ⟨_, rfl, ?_⟩); refine A2 15 rfl (sto ti9 ?_); refine A1 16 rfl (ncb ⟨_, rfl, ?_⟩); refine A1 17 rfl (fdb ti105 ⟨_, rfl, ?_⟩); refine A2 18 rfl (sto ti3 ?_); refine a_end ?_; refine fin_normal ?_
    refine fin_od (l := []) rfl rfl ([0]) ([scO s (i + 1) (s.extract i (i + 1)) i]) rfl rfl rfl ?_ ?_
    · repeat (first | exact boz | refine boc ?_)
    · have h := step_yes (tok_par hi hi1 h6)
      refine ⟨rfl, ?_⟩
      rw [h.1, h.2.1, h.2.2, show i + (s.extract i (i + 1)).size = (i + 1) by rw [ByteArray.size_extract]; omega]; rfl
  (try simp only [nrm, Int.reduceEq, Int.reduceNe, Int.reduceLT, Int.reduceLE] at h6); refine kp [3, 0] ?_; refine sr ?_; refine o1 (mv ?_); refine oc (cv ca120 rfl rfl (letter_spec (byteAt s i) hba.1 hba.2) (fir .nil) ?_); refine o1 (asg ?_)
  refine nx ?_; refine cd (fun h7 => ?_) (fun h7 => ?_)
  · (try simp only [nrm, Int.reduceEq, Int.reduceNe, Int.reduceLT, Int.reduceLE] at h7)
    refine kp [0] ?_; refine sr ?_; refine o1 (mv ?_); refine o1 (mv ?_); refine o1 (ncb ?_); refine o1 (fdb ti105 ?_); refine o1 (ldb ti3 ?_)
    refine oc (ck ca118 rfl rfl (run_spec 121 _ (.inr rfl) (nameB · false) ca121 (fun c h0 h1 => nb2_spec c h0 h1) s hs i p tok0 i hil.2) [0] rfl (boc .nil) (fir (fir (fir .nil))) ?_); refine o1 (asg ?_); refine nx ?_; refine kp [2, 0] ?_
    refine sr ?_; refine o1 (mv ?_); refine o1 (mv ?_); refine o1 (ncb ?_); refine o1 (fdb ti105 ?_); refine o1 (ldb ti3 ?_); refine o1 (isu ?_); refine o1 (igt ?_); refine nx ?_; refine cd (fun h9 => ?_) (fun h9 => ?_)
    · (try simp only [nrm, Int.reduceEq, Int.reduceNe, Int.reduceLT, Int.reduceLE] at h9)
      refine kp [0] ?_; refine runs_region ?_; refine o1 (asg ?_); refine ops_nil ?_; refine inb_normal ?_; refine seq_normal ?_; refine runs_seq ?_; refine sr ?_; refine o1 (mv ?_); refine o1 (ilt ?_); refine nx ?_
      refine cdf (fun h19 => ?_) (fun h19 => ?_)
      · simp only [nrm, Int.reduceEq, Int.reduceNe, Int.reduceLT, Int.reduceLE] at h19
      (try simp only [nrm, Int.reduceEq, Int.reduceNe, Int.reduceLT, Int.reduceLE] at h19); refine sr ?_; refine o1 (mv ?_); refine o1 (ncb ?_); refine o1 (fdb ti105 ?_); refine oc (sto ti9 ?_); refine nx ?_; refine runs_ret ?_; refine seq_ret ?_
      refine fin_ret ?_; refine fin_od (l := []) rfl rfl ([0]) ([scO s p ⟨#[0]⟩ i]) rfl rfl rfl ?_ ?_
      · repeat (first | exact boz | refine boc ?_)
      · have h := step_no (tok_nameNo hi hi1 (by omega) h7 (spanB_step hi1 (nameB_mono h7)).symm (by omega))
        refine ⟨rfl, ?_⟩
        rw [h.1, h.2.1, h.2.2]; rfl
    (try simp only [nrm, Int.reduceEq, Int.reduceNe, Int.reduceLT, Int.reduceLE] at h9); refine runs_skip ?_; refine inb_normal ?_; refine seq_normal ?_; refine runs_seq ?_; refine kp [2, 0] ?_; refine sr ?_; refine o1 (mv ?_)
    refine o1 (ilt ?_); refine nx ?_; refine cd (fun h19 => ?_) (fun h19 => ?_)
    · (try simp only [nrm, Int.reduceEq, Int.reduceNe, Int.reduceLT, Int.reduceLE] at h19); contradiction
    (try simp only [nrm, Int.reduceEq, Int.reduceNe, Int.reduceLT, Int.reduceLE] at h19); refine runs_skip ?_; refine seq_normal ?_; refine a_start ?_ (hm := by exact mixed); refine A1 0 rfl (mv ⟨_, rfl, ?_⟩); refine A1 1 rfl (mv ⟨_, rfl, ?_⟩)
    refine A1 2 rfl (mv ⟨_, rfl, ?_⟩); refine A1 3 rfl (ncb ⟨_, rfl, ?_⟩); refine A1 4 rfl (fdb ti105 ⟨_, rfl, ?_⟩); refine A1 5 rfl (ldb ti9 ⟨_, rfl, ?_⟩); refine A1 6 rfl (mv ⟨_, rfl, ?_⟩); refine A1 7 rfl (ncb ⟨_, rfl, ?_⟩)
    refine A1 8 rfl (fdb ti105 ⟨_, rfl, ?_⟩); refine A1 9 rfl (ldb ti3 ⟨_, rfl, ?_⟩); refine A1 10 rfl (mv ⟨_, rfl, ?_⟩); refine A1 11 rfl (f_sub_lh ut9 ⟨_, rfl, ?_⟩); refine A1 12 rfl (mv ⟨_, rfl, ?_⟩); refine A1 13 rfl (ncb ⟨_, rfl, ?_⟩)
    refine A1 14 rfl (fdb ti105 ⟨_, rfl, ?_⟩); refine A2 15 rfl (sto ti9 ?_); refine A1 16 rfl (ncb ⟨_, rfl, ?_⟩); refine A1 17 rfl (fdb ti105 ⟨_, rfl, ?_⟩); refine A2 18 rfl (sto ti3 ?_); refine a_end ?_; refine fin_normal ?_
    refine fin_od (l := []) rfl rfl ([0]) ([scO s (spanB (fun x => nameB x false) s i) (s.extract i (spanB (fun x => nameB x false) s i)) i]) rfl rfl rfl ?_ ?_
    · repeat (first | exact boz | refine boc ?_)
    · have h := step_yes (tok_name hi hi1 (by omega) h7 (spanB_step hi1 (nameB_mono h7)).symm (by omega))
      refine ⟨rfl, ?_⟩
      rw [h.1, h.2.1, h.2.2, show i + (s.extract i (spanB (fun x => nameB x false) s i)).size = (spanB (fun x => nameB x false) s i) by rw [ByteArray.size_extract]; omega]; rfl
  (try simp only [nrm, Int.reduceEq, Int.reduceNe, Int.reduceLT, Int.reduceLE] at h7); refine sr ?_; refine o1 (mv ?_); refine o1 (ieq ?_); refine o1 (mv ?_)
  apply ops_or (yt := 77) (d := 75) 2 rfl rfl rfl (.none rfl) rfl rfl
  case h1 =>
    intro hb4 hK
    have hc := hb4; (try simp only [nrm, Int.reduceEq, Int.reduceNe, Int.reduceLT, Int.reduceLE] at hc)
    refine gye ?_ (hbw := by exact hb4); refine o1 (mv ?_); refine gye ?_ (hbw := by exact hb4); refine oc (cv ca122 rfl rfl (digit_spec (byteAt s i)) (fir .nil) ?_); exact hK [_, _] rfl rfl
  case h2 =>
    intro hb4 hK; refine gno ?_ (hbw := by exact hb4); refine gno ?_ (hbw := by exact hb4); exact hK [_, _] rfl
  refine o1 (asg ?_); refine nx ?_; refine cdf (fun h11 => ?_) (fun h11 => ?_)
  · (try simp only [nrm, Int.reduceEq, Int.reduceNe, Int.reduceLT, Int.reduceLE] at h11)
    refine kp [0] ?_; refine runs_region ?_; refine o1 (asg ?_); refine ops_nil ?_; refine inb_normal ?_; refine seq_normal ?_; refine runs_seq ?_; refine sr ?_; refine o1 (mv ?_); refine o1 (ilt ?_); refine nx ?_
    refine cdf (fun h19 => ?_) (fun h19 => ?_)
    · simp only [nrm, Int.reduceEq, Int.reduceNe, Int.reduceLT, Int.reduceLE] at h19
    (try simp only [nrm, Int.reduceEq, Int.reduceNe, Int.reduceLT, Int.reduceLE] at h19); refine sr ?_; refine o1 (mv ?_); refine o1 (ncb ?_); refine o1 (fdb ti105 ?_); refine oc (sto ti9 ?_); refine nx ?_; refine runs_ret ?_; refine seq_ret ?_
    refine fin_ret ?_; refine fin_od (l := []) rfl rfl ([0]) ([scO s p ⟨#[0]⟩ i]) rfl rfl rfl ?_ ?_
    · repeat (first | exact boz | refine boc ?_)
    · have h := step_no (tok_none hi hi1 (by omega) h7 (by simp only [digB, decide_eq_false_iff_not] at h11; omega))
      refine ⟨rfl, ?_⟩
      rw [h.1, h.2.1, h.2.2]; rfl
  (try simp only [nrm, Int.reduceEq, Int.reduceNe, Int.reduceLT, Int.reduceLE] at h11); refine kp [3, 0] ?_; refine sr ?_; refine o1 (mv ?_); refine o1 (ncb ?_); refine o1 (fdb ti105 ?_); refine o1 (ldb ti3 ?_); refine o1 (asg ?_)
  refine nx ?_; refine runs_seq ?_; refine kp [4, 3, 0] ?_; refine sr ?_; refine o1 (mv ?_); refine o1 (ieq ?_); refine nx ?_; refine cdf (fun h13 => ?_) (fun h13 => ?_)
  · (try simp only [nrm, Int.reduceEq, Int.reduceNe, Int.reduceLT, Int.reduceLE] at h13)
    refine runs_skip ?_; refine seq_normal ?_; refine sr ?_; refine o1 (mv ?_); refine o1 (mv ?_)
    refine oc (ck ca118 rfl rfl (run_spec 122 _ (.inr rfl) digB ca122 (fun c _ _ => digit_spec c) s hs i p tok0 i hil.2) [0] rfl (boc .nil) (fir (fir (fir .nil))) ?_); refine o1 (asg ?_); refine nx ?_; refine kp [2, 4, 0] ?_; refine sr ?_
    refine o1 (mv ?_); refine o1 (mv ?_); refine o1 (isu ?_); refine o1 (asg ?_); refine nx ?_; refine sr ?_; refine o1 (mv ?_); refine o1 (ieq ?_); refine o1 (mv ?_)
    apply ops_or (yt := 97) (d := 95) 2 rfl rfl rfl (.none rfl) rfl rfl
    case h1 =>
      intro hb4 hK
      have hc := hb4; (try simp only [nrm, Int.reduceEq, Int.reduceNe, Int.reduceLT, Int.reduceLE] at hc)
      refine gye ?_ (hbw := by exact hb4); refine o1 (mv ?_); refine gye ?_ (hbw := by exact hb4); refine o1 (igt ?_); exact hK [_, _] rfl rfl
    case h2 =>
      intro hb4 hK; refine gno ?_ (hbw := by exact hb4); refine gno ?_ (hbw := by exact hb4); exact hK [_, _] rfl
    refine o1 (mv ?_)
    apply ops_or (yt := 110) (d := 99) 11 rfl rfl rfl (.none rfl) rfl rfl
    case h1 =>
      intro hb12 hK
      have hc := hb12; (try simp only [nrm, Int.reduceEq, Int.reduceNe, Int.reduceLT, Int.reduceLE] at hc)
      refine gye ?_ (hbw := by exact hb12); refine o1 (mv ?_); refine gye ?_ (hbw := by exact hb12); refine o1 (igt ?_); refine gye ?_ (hbw := by exact hb12); refine o1 (mv ?_)
      apply ops_and (yt := 109) (d := 102) 7 rfl rfl rfl (.yes rfl rfl rfl hb12) rfl rfl
      case h1 =>
        intro hb19 hK
        have hc := hb19; (try simp only [nrm, Int.reduceEq, Int.reduceNe, Int.reduceLT, Int.reduceLE] at hc)
        refine gye ?_ (hbw := by exact hb19); refine o1 (mv ?_); refine gye ?_ (hbw := by exact hb19); refine o1 (ncb ?_); refine gye ?_ (hbw := by exact hb19); refine o1 (fdb ti105 ?_); refine gye ?_ (hbw := by exact hb19); refine o1 (ldb ti9 ?_)
        refine gye ?_ (hbw := by exact hb19); refine o1 (mv ?_); refine gye ?_ (hbw := by exact hb19); refine o1 (byt ut9 ?_); refine gye ?_ (hbw := by exact hb19); refine o1 (ieq ?_); exact hK [_, _, _, _, _, _, _] rfl rfl
      case h2 =>
        intro hb19 hK; refine gno ?_ (hbw := by exact hb19); refine gno ?_ (hbw := by exact hb19); refine gno ?_ (hbw := by exact hb19); refine gno ?_ (hbw := by exact hb19); refine gno ?_ (hbw := by exact hb19); refine gno ?_ (hbw := by exact hb19)
        refine gno ?_ (hbw := by exact hb19); exact hK [_, _, _, _, _, _, _] rfl
      exact hK [_, _, _, _] rfl rfl
    case h2 =>
      intro hb12 hK; refine gno ?_ (hbw := by exact hb12); refine gno ?_ (hbw := by exact hb12); refine gno ?_ (hbw := by exact hb12); refine gud ?_; refine gud ?_; refine gud ?_; refine gud ?_; refine gud ?_; refine gud ?_; refine gud ?_
      refine gno ?_ (hbw := by exact hb12); exact hK [_, _, _, _, _, _, _, _, _, _, _] rfl
    refine nx ?_; refine cd (fun h17 => ?_) (fun h17 => ?_)
    · (try simp only [nrm, Int.reduceEq, Int.reduceNe, Int.reduceLT, Int.reduceLE] at h17)
      refine kp [0] ?_; refine runs_region ?_; refine o1 (asg ?_); refine ops_nil ?_; refine inb_normal ?_; refine seq_normal ?_; refine runs_seq ?_; refine sr ?_; refine o1 (mv ?_); refine o1 (ilt ?_); refine nx ?_
      refine cdf (fun h19 => ?_) (fun h19 => ?_)
      · simp only [nrm, Int.reduceEq, Int.reduceNe, Int.reduceLT, Int.reduceLE] at h19
      (try simp only [nrm, Int.reduceEq, Int.reduceNe, Int.reduceLT, Int.reduceLE] at h19); refine sr ?_; refine o1 (mv ?_); refine o1 (ncb ?_); refine o1 (fdb ti105 ?_); refine oc (sto ti9 ?_); refine nx ?_; refine runs_ret ?_; refine seq_ret ?_
      refine fin_ret ?_; refine fin_od (l := []) rfl rfl ([0]) ([scO s p ⟨#[0]⟩ i]) rfl rfl rfl ?_ ?_
      · repeat (first | exact boz | refine boc ?_)
      · have h := step_no (tok_numNo hi hi1 (by omega) h7 (by simp only [digB, decide_eq_true_eq] at h11; omega) (spanB_step hi1 (by rcases h11 with h11 | h11; omega; exact h11)).symm (if_neg h13) (by omega))
        refine ⟨rfl, ?_⟩
        rw [h.1, h.2.1, h.2.2]; rfl
    (try simp only [nrm, Int.reduceEq, Int.reduceNe, Int.reduceLT, Int.reduceLE] at h17); refine runs_skip ?_; refine inb_normal ?_; refine seq_normal ?_; refine runs_seq ?_; refine kp [2, 0] ?_; refine sr ?_; refine o1 (mv ?_)
    refine o1 (ilt ?_); refine nx ?_; refine cd (fun h19 => ?_) (fun h19 => ?_)
    · (try simp only [nrm, Int.reduceEq, Int.reduceNe, Int.reduceLT, Int.reduceLE] at h19); contradiction
    (try simp only [nrm, Int.reduceEq, Int.reduceNe, Int.reduceLT, Int.reduceLE] at h19); refine runs_skip ?_; refine seq_normal ?_; refine a_start ?_ (hm := by exact mixed); refine A1 0 rfl (mv ⟨_, rfl, ?_⟩); refine A1 1 rfl (mv ⟨_, rfl, ?_⟩)
    refine A1 2 rfl (mv ⟨_, rfl, ?_⟩); refine A1 3 rfl (ncb ⟨_, rfl, ?_⟩); refine A1 4 rfl (fdb ti105 ⟨_, rfl, ?_⟩); refine A1 5 rfl (ldb ti9 ⟨_, rfl, ?_⟩); refine A1 6 rfl (mv ⟨_, rfl, ?_⟩); refine A1 7 rfl (ncb ⟨_, rfl, ?_⟩)
    refine A1 8 rfl (fdb ti105 ⟨_, rfl, ?_⟩); refine A1 9 rfl (ldb ti3 ⟨_, rfl, ?_⟩); refine A1 10 rfl (mv ⟨_, rfl, ?_⟩); refine A1 11 rfl (f_sub_lh ut9 ⟨_, rfl, ?_⟩); refine A1 12 rfl (mv ⟨_, rfl, ?_⟩); refine A1 13 rfl (ncb ⟨_, rfl, ?_⟩)
    refine A1 14 rfl (fdb ti105 ⟨_, rfl, ?_⟩); refine A2 15 rfl (sto ti9 ?_); refine A1 16 rfl (ncb ⟨_, rfl, ?_⟩); refine A1 17 rfl (fdb ti105 ⟨_, rfl, ?_⟩); refine A2 18 rfl (sto ti3 ?_); refine a_end ?_; refine fin_normal ?_
    refine fin_od (l := []) rfl rfl ([0]) ([scO s (spanB digB s i) (s.extract i (spanB digB s i)) i]) rfl rfl rfl ?_ ?_
    · repeat (first | exact boz | refine boc ?_)
    · have h := step_yes (tok_num hi hi1 (by omega) h7 (by simp only [digB, decide_eq_true_eq] at h11; omega) (spanB_step hi1 (by rcases h11 with h11 | h11; omega; exact h11)).symm (if_neg h13) (by omega))
      refine ⟨rfl, ?_⟩
      rw [h.1, h.2.1, h.2.2, show i + (s.extract i (spanB digB s i)).size = (spanB digB s i) by rw [ByteArray.size_extract]; omega]; rfl
  (try simp only [nrm, Int.reduceEq, Int.reduceNe, Int.reduceLT, Int.reduceLE] at h13); refine runs_region ?_; refine o1 (mv ?_); refine o1 (iad ?_); refine o1 (asg ?_); refine nx ?_; refine kp [4, 0] ?_; refine sr ?_; refine o1 (mv ?_)
  refine o1 (mv ?_); refine oc (ck ca118 rfl rfl (run_spec 122 _ (.inr rfl) digB ca122 (fun c _ _ => digit_spec c) s hs (i + 1) p tok0 i (by omega)) [0] rfl (boc .nil) (fir (fir (fir .nil))) ?_); refine o1 (asg ?_); refine nx ?_; refine sr ?_
  refine o1 (mv ?_); refine o1 (mv ?_); refine o1 (isu ?_); refine o1 (asg ?_); refine nx ?_; refine kp [5, 2, 4, 0] ?_; refine sr ?_; refine o1 (mv ?_); refine o1 (ieq ?_); refine o1 (mv ?_)
  apply ops_or (yt := 97) (d := 95) 2 rfl rfl rfl (.none rfl) rfl rfl
  case h1 =>
    intro hb4 hK
    have hc := hb4; (try simp only [nrm, Int.reduceEq, Int.reduceNe, Int.reduceLT, Int.reduceLE] at hc)
    refine gye ?_ (hbw := by exact hb4); refine o1 (mv ?_); refine gye ?_ (hbw := by exact hb4); refine o1 (igt ?_); exact hK [_, _] rfl rfl
  case h2 =>
    intro hb4 hK; refine gno ?_ (hbw := by exact hb4); refine gno ?_ (hbw := by exact hb4); exact hK [_, _] rfl
  refine o1 (mv ?_)
  apply ops_or (yt := 110) (d := 99) 11 rfl rfl rfl (.none rfl) rfl rfl
  case h1 =>
    intro hb12 hK
    have hc := hb12; (try simp only [nrm, Int.reduceEq, Int.reduceNe, Int.reduceLT, Int.reduceLE] at hc)
    refine gye ?_ (hbw := by exact hb12); refine o1 (mv ?_); refine gye ?_ (hbw := by exact hb12); refine o1 (igt ?_); refine gye ?_ (hbw := by exact hb12); refine o1 (mv ?_)
    apply ops_and (yt := 109) (d := 102) 7 rfl rfl rfl (.yes rfl rfl rfl hb12) rfl rfl
    case h1 =>
      intro hb19 hK
      have hc := hb19; (try simp only [nrm, Int.reduceEq, Int.reduceNe, Int.reduceLT, Int.reduceLE] at hc)
      refine gye ?_ (hbw := by exact hb19); refine o1 (mv ?_); refine gye ?_ (hbw := by exact hb19); refine o1 (ncb ?_); refine gye ?_ (hbw := by exact hb19); refine o1 (fdb ti105 ?_); refine gye ?_ (hbw := by exact hb19); refine o1 (ldb ti9 ?_)
      refine gye ?_ (hbw := by exact hb19); refine o1 (mv ?_); refine gye ?_ (hbw := by exact hb19); refine o1 (byt ut9 ?_); refine gye ?_ (hbw := by exact hb19); refine o1 (ieq ?_); exact hK [_, _, _, _, _, _, _] rfl rfl
    case h2 =>
      intro hb19 hK; refine gno ?_ (hbw := by exact hb19); refine gno ?_ (hbw := by exact hb19); refine gno ?_ (hbw := by exact hb19); refine gno ?_ (hbw := by exact hb19); refine gno ?_ (hbw := by exact hb19); refine gno ?_ (hbw := by exact hb19)
      refine gno ?_ (hbw := by exact hb19); exact hK [_, _, _, _, _, _, _] rfl
    exact hK [_, _, _, _] rfl rfl
  case h2 =>
    intro hb12 hK; refine gno ?_ (hbw := by exact hb12); refine gno ?_ (hbw := by exact hb12); refine gno ?_ (hbw := by exact hb12); refine gud ?_; refine gud ?_; refine gud ?_; refine gud ?_; refine gud ?_; refine gud ?_; refine gud ?_
    refine gno ?_ (hbw := by exact hb12); exact hK [_, _, _, _, _, _, _, _, _, _, _] rfl
  refine nx ?_; refine cd (fun h17 => ?_) (fun h17 => ?_)
  · (try simp only [nrm, Int.reduceEq, Int.reduceNe, Int.reduceLT, Int.reduceLE] at h17)
    refine kp [0] ?_; refine runs_region ?_; refine o1 (asg ?_); refine ops_nil ?_; refine inb_normal ?_; refine seq_normal ?_; refine runs_seq ?_; refine sr ?_; refine o1 (mv ?_); refine o1 (ilt ?_); refine nx ?_
    refine cdf (fun h19 => ?_) (fun h19 => ?_)
    · simp only [nrm, Int.reduceEq, Int.reduceNe, Int.reduceLT, Int.reduceLE] at h19
    (try simp only [nrm, Int.reduceEq, Int.reduceNe, Int.reduceLT, Int.reduceLE] at h19); refine sr ?_; refine o1 (mv ?_); refine o1 (ncb ?_); refine o1 (fdb ti105 ?_); refine oc (sto ti9 ?_); refine nx ?_; refine runs_ret ?_; refine seq_ret ?_
    refine fin_ret ?_; refine fin_od (l := []) rfl rfl ([0]) ([scO s p ⟨#[0]⟩ i]) rfl rfl rfl ?_ ?_
    · repeat (first | exact boz | refine boc ?_)
    · have h := step_no (tok_numNo hi hi1 (by omega) h7 (by simp only [digB, decide_eq_true_eq] at h11; omega) rfl (if_pos h13) (by omega))
      refine ⟨rfl, ?_⟩
      rw [h.1, h.2.1, h.2.2]; rfl
  (try simp only [nrm, Int.reduceEq, Int.reduceNe, Int.reduceLT, Int.reduceLE] at h17); refine runs_skip ?_; refine inb_normal ?_; refine seq_normal ?_; refine runs_seq ?_; refine kp [2, 0] ?_; refine sr ?_; refine o1 (mv ?_)
  refine o1 (ilt ?_); refine nx ?_; refine cd (fun h19 => ?_) (fun h19 => ?_)
  · (try simp only [nrm, Int.reduceEq, Int.reduceNe, Int.reduceLT, Int.reduceLE] at h19); contradiction
  (try simp only [nrm, Int.reduceEq, Int.reduceNe, Int.reduceLT, Int.reduceLE] at h19); refine runs_skip ?_; refine seq_normal ?_; refine a_start ?_ (hm := by exact mixed); refine A1 0 rfl (mv ⟨_, rfl, ?_⟩); refine A1 1 rfl (mv ⟨_, rfl, ?_⟩)
  refine A1 2 rfl (mv ⟨_, rfl, ?_⟩); refine A1 3 rfl (ncb ⟨_, rfl, ?_⟩); refine A1 4 rfl (fdb ti105 ⟨_, rfl, ?_⟩); refine A1 5 rfl (ldb ti9 ⟨_, rfl, ?_⟩); refine A1 6 rfl (mv ⟨_, rfl, ?_⟩); refine A1 7 rfl (ncb ⟨_, rfl, ?_⟩)
  refine A1 8 rfl (fdb ti105 ⟨_, rfl, ?_⟩); refine A1 9 rfl (ldb ti3 ⟨_, rfl, ?_⟩); refine A1 10 rfl (mv ⟨_, rfl, ?_⟩); refine A1 11 rfl (f_sub_lh ut9 ⟨_, rfl, ?_⟩); refine A1 12 rfl (mv ⟨_, rfl, ?_⟩); refine A1 13 rfl (ncb ⟨_, rfl, ?_⟩)
  refine A1 14 rfl (fdb ti105 ⟨_, rfl, ?_⟩); refine A2 15 rfl (sto ti9 ?_); refine A1 16 rfl (ncb ⟨_, rfl, ?_⟩); refine A1 17 rfl (fdb ti105 ⟨_, rfl, ?_⟩); refine A2 18 rfl (sto ti3 ?_); refine a_end ?_; refine fin_normal ?_
  refine fin_od (l := []) rfl rfl ([0]) ([scO s (spanB digB s (i + 1)) (s.extract i (spanB digB s (i + 1))) i]) rfl rfl rfl ?_ ?_
  · repeat (first | exact boz | refine boc ?_)
  · have h := step_yes (tok_num hi hi1 (by omega) h7 (by simp only [digB, decide_eq_true_eq] at h11; omega) rfl (if_pos h13) (by omega))
    refine ⟨rfl, ?_⟩
    rw [h.1, h.2.1, h.2.2, show i + (s.extract i (spanB digB s (i + 1))).size = (spanB digB s (i + 1)) by rw [ByteArray.size_extract]; omega]; rfl
end Go.Proofs.YtneaancanfpdhaaGreatDoor
namespace Go.Proofs.YtneaancanfpdhaaGreatDoor
open Go Go.Vd Go.RowKit
attribute [local irreducible] Runs OpsR OpR FloatR AnyR AnyO
variable {gl : Nat → List D}

/-- a fault, as an error or as what is thrown -/
def fltD (code at' : Int) : D := .ifc 96 (.cp [.v (.int .i64 code), .v (.int .i64 at')])

theorem sfail_spec (s : ByteArray) (b : Nat) (tok : ByteArray) (pos : Nat) :
    Tri Tryz.prog gl 104 [scO s b tok pos] [.blk 0 0] fun out ob' => out = .pan (.d (fltD 1 pos)) ∧ ob' = [scO s b tok pos] := by
  unfold scO fltD
  refine triS_of_runs Tryz.func104 rfl Tryz.ntmps104 (rs := []) rfl rfl rfl 1 rfl ?_
  refine runs_region ?_; refine o1 (mv ?_); refine o1 (ncb ?_); refine o1 (fdb ti105 ?_); refine o1 (ldb ti3 ?_); refine o1 (bld ti33 ?_)
  refine oc (T := fun _ => False) (bx ti33 ?_ (hl := by simp only [List.length_cons, List.length_nil, Nat.reduceAdd]; rfl)); refine ops_freeze 1 rfl rfl rfl rfl rfl rfl ?_; refine o1 (f_iface_d ?_); refine oc (T := fun _ => False) (o_panic ?_)
  refine leave_d ([0]) ([scO s b tok pos]) rfl rfl rfl (by repeat (first | exact boz | refine boc ?_)) ?_; exact ⟨rfl, rfl⟩

/-- a scanner that stands at the token behind p -/
def scA (s : ByteArray) (p : Nat) : Ob := scO s (stepAt s p) (stepTok s p) (tokR s p).2.1
theorem stepAt_le {s : ByteArray} {p : Nat} (hp : p ≤ s.size) : p ≤ stepAt s p ∧ stepAt s p ≤ s.size := by
  have := tokR_at (s := s) hp
  unfold stepAt
  split <;> omega

theorem take_ok (s : ByteArray) (hs : s.size ≤ 1099511627776) (b : Nat) (hb : b ≤ s.size) (w : ByteArray) (pos : Nat) :
    Tri Tryz.prog gl 105 [scO s b w pos] [.blk 0 0, .d (.v (.string w))] fun out ob' => out = .ret (.d (.tup [])) ∧ ob' = [scA s b] := by
  unfold scO
  refine triS_of_runs Tryz.func105 rfl Tryz.ntmps105 (rs := []) rfl rfl rfl 1 rfl ?_
  refine runs_seq ?_; refine sr ?_; refine o1 (mv ?_); refine o1 (ncb ?_); refine o1 (fdb ti105 ?_); refine o1 (ldb ti9 ?_); refine o1 (mv ?_); refine o1 (sne ?_); refine nx ?_; refine cd (fun h0 => ?_) (fun h0 => ?_)
  · simp only [nrm, Int.reduceEq, Int.reduceNe, Int.reduceLT, Int.reduceLE] at h0
  (try simp only [nrm, Int.reduceEq, Int.reduceNe, Int.reduceLT, Int.reduceLE] at h0); refine runs_skip ?_; refine seq_normal ?_; refine kp [0] ?_; refine runs_region ?_; refine o1 (mv ?_)
  refine oc (ck ca101 rfl rfl (step_spec s hs b hb w pos) [0] rfl (boc .nil) (fir .nil) ?_); refine ops_nil ?_; refine fin_normal ?_; refine fin_od (l := []) rfl rfl ([0]) ([scA s b]) rfl rfl rfl ?_ ?_
  · repeat (first | exact boz | refine boc ?_)
  · exact ⟨rfl, rfl⟩

theorem take_bad (s : ByteArray) (b : Nat) (tok w : ByteArray) (pos : Nat) (hw : ¬ tok = w) :
    Tri Tryz.prog gl 105 [scO s b tok pos] [.blk 0 0, .d (.v (.string w))] fun out ob' => out = .pan (.d (fltD 1 pos)) ∧ ob' = [scO s b tok pos] := by
  unfold scO
  refine triS_of_runs Tryz.func105 rfl Tryz.ntmps105 (rs := []) rfl rfl rfl 1 rfl ?_
  refine runs_seq ?_; refine sr ?_; refine o1 (mv ?_); refine o1 (ncb ?_); refine o1 (fdb ti105 ?_); refine o1 (ldb ti9 ?_); refine o1 (mv ?_); refine o1 (sne ?_); refine nx ?_; refine cdf (fun h0 => ?_) (fun h0 => ?_)
  · (try simp only [nrm, Int.reduceEq, Int.reduceNe, Int.reduceLT, Int.reduceLE] at h0); contradiction
  (try simp only [nrm, Int.reduceEq, Int.reduceNe, Int.reduceLT, Int.reduceLE] at h0); refine kp [0] ?_; refine runs_region ?_; refine o1 (mv ?_)
  refine oc (op_callo ca104 rfl rfl rfl rfl (sfail_spec s b tok pos) [0] (boc .nil) rfl rfl rfl rfl (fir .nil) (fun s ob' hq => ?_) (fun s ob' hq => ?_))
  · cases hq.1
  obtain ⟨hq1, rfl⟩ := hq; cases hq1; refine ⟨_, _, _, _, _, rfl, rfl, rfl, rfl, rfl, ?_⟩; refine leave_d ([0]) ([scO s b tok pos]) rfl rfl rfl (by repeat (first | exact boz | refine boc ?_)) ?_; exact ⟨rfl, rfl⟩

theorem name_ok (s : ByteArray) (hs : s.size ≤ 1099511627776) (b : Nat) (hb : b ≤ s.size) (w : ByteArray) (pos : Nat) (hw : isNameB w = true) :
    Tri Tryz.prog gl 107 [scO s b w pos] [.blk 0 0] fun out ob' => out = .ret (.d (.v (.string w))) ∧ ob' = [scA s b] := by
  have hb0 := byteAt_bound w 0
  simp only [isNameB, Bool.and_eq_true, decide_eq_true_eq] at hw
  have hw2 := size_pos_of_ne hw.1
  have hem : ¬ w = ⟨#[]⟩ := hw.1
  unfold scO
  refine triS_of_runs Tryz.func107 rfl Tryz.ntmps107 (rs := [.tmp 2]) rfl rfl rfl 1 rfl ?_
  refine sr ?_; refine o1 (asg ?_); refine nx ?_; refine sr ?_; refine o1 (mv ?_); refine o1 (ncb ?_); refine o1 (fdb ti105 ?_); refine o1 (ldb ti9 ?_); refine o1 (asg ?_); refine nx ?_; refine runs_seq ?_; refine kp [3, 0] ?_; refine sr ?_
  refine o1 (mv ?_); refine o1 (seq1 ?_); refine o1 (mv ?_)
  apply ops_or (yt := 14) (d := 10) 4 rfl rfl rfl (.none rfl) rfl rfl
  case h1 =>
    intro hb4 hK
    have hc := hb4; (try simp only [nrm, Int.reduceEq, Int.reduceNe, Int.reduceLT, Int.reduceLE] at hc)
    refine gye ?_ (hbw := by exact hb4); refine o1 (mv ?_); refine gye ?_ (hbw := by exact hb4); refine o1 (byt ut9 ?_); refine gye ?_ (hbw := by exact hb4); refine oc (cv ca120 rfl rfl (letter_spec (byteAt w 0) hb0.1 hb0.2) (fir .nil) ?_)
    refine gye ?_ (hbw := by exact hb4); refine o1 (f_not ?_); exact hK [_, _, _, _] rfl rfl
  case h2 =>
    intro hb4 hK; refine gno ?_ (hbw := by exact hb4); refine gno ?_ (hbw := by exact hb4); refine gno ?_ (hbw := by exact hb4); refine gno ?_ (hbw := by exact hb4); exact hK [_, _, _, _] rfl
  refine nx ?_; refine cd (fun h2 => ?_) (fun h2 => ?_)
  · (try simp only [nrm, Int.reduceEq, Int.reduceNe, Int.reduceLT, Int.reduceLE] at h2); exfalso; rcases h2 with h | h; exact hem h; rw [hw.2] at h; cases h
  (try simp only [nrm, Int.reduceEq, Int.reduceNe, Int.reduceLT, Int.reduceLE] at h2); refine runs_skip ?_; refine seq_normal ?_; refine kp [3, 0] ?_; refine sr ?_; refine o1 (mv ?_)
  refine oc (ck ca101 rfl rfl (step_spec s hs b hb w pos) [0] rfl (boc .nil) (fir .nil) ?_); refine nx ?_; refine sr ?_; refine o1 (mv ?_); refine o1 (asg ?_); refine nx ?_; refine runs_ret ?_; refine fin_ret ?_
  refine fin_od ⟨_, _, rfl, rfl, rfl⟩ rfl ([0]) ([scA s b]) rfl rfl rfl ?_ ?_
  · repeat (first | exact boz | refine boc ?_)
  · exact ⟨rfl, rfl⟩

theorem name_bad (s : ByteArray) (b : Nat) (w : ByteArray) (pos : Nat) (hw : isNameB w = false) :
    Tri Tryz.prog gl 107 [scO s b w pos] [.blk 0 0] fun out ob' => out = .pan (.d (fltD 1 pos)) ∧ ob' = [scO s b w pos] := by
  have hb0 := byteAt_bound w 0
  have hw2 : ¬ w = ⟨#[]⟩ → 0 < w.size := fun h => size_pos_of_ne h
  unfold scO
  refine triS_of_runs Tryz.func107 rfl Tryz.ntmps107 (rs := [.tmp 2]) rfl rfl rfl 1 rfl ?_
  refine sr ?_; refine o1 (asg ?_); refine nx ?_; refine sr ?_; refine o1 (mv ?_); refine o1 (ncb ?_); refine o1 (fdb ti105 ?_); refine o1 (ldb ti9 ?_); refine o1 (asg ?_); refine nx ?_; refine runs_seq ?_; refine kp [3, 0] ?_; refine sr ?_
  refine o1 (mv ?_); refine o1 (seq1 ?_); refine o1 (mv ?_)
  apply ops_or (yt := 14) (d := 10) 4 rfl rfl rfl (.none rfl) rfl rfl
  case h1 =>
    intro hb4 hK
    have hc := hb4; (try simp only [nrm, Int.reduceEq, Int.reduceNe, Int.reduceLT, Int.reduceLE] at hc)
    refine gye ?_ (hbw := by exact hb4); refine o1 (mv ?_)
    have hw3 := hw2 hc
    refine gye ?_ (hbw := by exact hb4); refine o1 (byt ut9 ?_); refine gye ?_ (hbw := by exact hb4); refine oc (cv ca120 rfl rfl (letter_spec (byteAt w 0) hb0.1 hb0.2) (fir .nil) ?_); refine gye ?_ (hbw := by exact hb4); refine o1 (f_not ?_)
    exact hK [_, _, _, _] rfl rfl
  case h2 =>
    intro hb4 hK; refine gno ?_ (hbw := by exact hb4); refine gno ?_ (hbw := by exact hb4); refine gno ?_ (hbw := by exact hb4); refine gno ?_ (hbw := by exact hb4); exact hK [_, _, _, _] rfl
  refine nx ?_; refine cdf (fun h2 => ?_) (fun h2 => ?_)
  · (try simp only [nrm, Int.reduceEq, Int.reduceNe, Int.reduceLT, Int.reduceLE] at h2); exfalso; have h8 : isNameB w = true := (by simp only [isNameB, Bool.and_eq_true, decide_eq_true_eq]; exact ⟨h2.1, h2.2⟩); rw [hw] at h8; cases h8
  (try simp only [nrm, Int.reduceEq, Int.reduceNe, Int.reduceLT, Int.reduceLE] at h2); refine kp [3, 0] ?_; refine runs_region ?_; refine o1 (mv ?_)
  refine oc (op_callo ca104 rfl rfl rfl rfl (sfail_spec s b w pos) [0] (boc .nil) rfl rfl rfl rfl (fir .nil) (fun s ob' hq => ?_) (fun s ob' hq => ?_))
  · cases hq.1
  obtain ⟨hq1, rfl⟩ := hq; cases hq1; refine ⟨_, _, _, _, _, rfl, rfl, rfl, rfl, rfl, ?_⟩; refine leave_d ([0]) ([scO s b w pos]) rfl rfl rfl (by repeat (first | exact boz | refine boc ?_)) ?_; exact ⟨rfl, rfl⟩

theorem end_ok (s : ByteArray) (b pos : Nat) :
    Tri Tryz.prog gl 74 [scO s b .empty pos] [.blk 0 0] fun out ob' => out = .ret (.d (.tup [])) ∧ ob' = [scO s b .empty pos] := by
  unfold scO
  refine triS_of_runs Tryz.func74 rfl Tryz.ntmps74 (rs := []) rfl rfl rfl 1 rfl ?_
  refine sr ?_; refine o1 (mv ?_); refine o1 (ncb ?_); refine o1 (fdb ti105 ?_); refine o1 (ldb ti9 ?_); refine o1 (sne ?_); refine nx ?_; refine cd (fun h0 => ?_) (fun h0 => ?_)
  · (try simp only [nrm, Int.reduceEq, Int.reduceNe, Int.reduceLT, Int.reduceLE] at h0); contradiction
  (try simp only [nrm, Int.reduceEq, Int.reduceNe, Int.reduceLT, Int.reduceLE] at h0); refine runs_skip ?_; refine fin_normal ?_; refine fin_od (l := []) rfl rfl ([0]) ([scO s b .empty pos]) rfl rfl rfl ?_ ?_
  · repeat (first | exact boz | refine boc ?_)
  · exact ⟨rfl, rfl⟩
theorem end_bad (s : ByteArray) (b : Nat) (tok : ByteArray) (pos : Nat) (hw : ¬ tok = .empty) :
    Tri Tryz.prog gl 74 [scO s b tok pos] [.blk 0 0] fun out ob' => out = .pan (.d (fltD 1 pos)) ∧ ob' = [scO s b tok pos] := by
  unfold scO
  refine triS_of_runs Tryz.func74 rfl Tryz.ntmps74 (rs := []) rfl rfl rfl 1 rfl ?_
  refine sr ?_; refine o1 (mv ?_); refine o1 (ncb ?_); refine o1 (fdb ti105 ?_); refine o1 (ldb ti9 ?_); refine o1 (sne ?_); refine nx ?_; refine cdf (fun h0 => ?_) (fun h0 => ?_)
  · (try simp only [nrm, Int.reduceEq, Int.reduceNe, Int.reduceLT, Int.reduceLE] at h0); contradiction
  (try simp only [nrm, Int.reduceEq, Int.reduceNe, Int.reduceLT, Int.reduceLE] at h0); refine kp [0] ?_; refine runs_region ?_; refine o1 (mv ?_)
  refine oc (op_callo ca104 rfl rfl rfl rfl (sfail_spec s b tok pos) [0] (boc .nil) rfl rfl rfl rfl (fir .nil) (fun s ob' hq => ?_) (fun s ob' hq => ?_))
  · cases hq.1
  obtain ⟨hq1, rfl⟩ := hq; cases hq1; refine ⟨_, _, _, _, _, rfl, rfl, rfl, rfl, rfl, ?_⟩; refine leave_d ([0]) ([scO s b tok pos]) rfl rfl rfl (by repeat (first | exact boz | refine boc ?_)) ?_; exact ⟨rfl, rfl⟩
theorem new_spec (s : ByteArray) (hs : s.size ≤ 1099511627776) :
    Tri Tryz.prog gl 72 [] [.d (.v (.string s))] fun out ob' => out = .ret (.blk 0 0) ∧ ob' = [scA s 0] := by
  refine triS_of_runs Tryz.func72 rfl Tryz.ntmps72 (rs := [.tmp 2]) rfl rfl rfl 0 rfl ?_
  refine sr ?_; refine o1 (asg ?_); refine nx ?_; refine sr ?_; refine o1 (mv ?_); refine o1 (bld ti105 ?_); refine oc (T := fun _ => False) (bx ti105 ?_ (hl := by simp only [List.length_cons, List.length_nil, Nat.reduceAdd]; rfl))
  refine o1 (asg ?_); refine nx ?_; refine kp [3] ?_; refine sr ?_; refine o1 (mv ?_); refine oc (ck ca101 rfl rfl (step_spec s hs 0 (Nat.zero_le _) .empty 0) [0] rfl (boc .nil) (fir .nil) ?_); refine nx ?_; refine sr ?_; refine o1 (mv ?_)
  refine o1 (asg ?_); refine nx ?_; refine runs_ret ?_; refine fin_ret ?_; refine fin_o ⟨_, _, rfl, rfl, rfl⟩ [0] (.blk 0 0) ([scA s 0]) rfl rfl rfl ?_ rfl ?_ ?_
  · repeat (first | exact boz | refine boc ?_)
  · exact .refl _
  · exact ⟨rfl, rfl⟩
end Go.Proofs.YtneaancanfpdhaaGreatDoor
namespace Go.Proofs.YtneaancanfpdhaaGreatDoor
open Go Go.Vd Go.RowKit
attribute [local irreducible] Runs OpsR OpR FloatR AnyR AnyO
variable {gl : Nat → List D}

theorem step_tok {s : ByteArray} {p : Nat} (h : (tokR s p).1 ≠ .empty) : stepTok s p = (tokR s p).1 ∧ stepAt s p = (nextR s ⟨p, none⟩).2.p ∧ (nextR s ⟨p, none⟩).2.f = none := by
  have h2 : (tokR s p).2.2 = true := by
    cases h3 : (tokR s p).2.2 with
    | true => rfl
    | false => exact absurd (tokR_empty h3) h
  rw [nextR_ok h]
  unfold stepTok stepAt
  rw [if_pos h2, if_pos h2]
  exact ⟨rfl, rfl, rfl⟩
theorem step_emp {s : ByteArray} {p : Nat} (h : (tokR s p).1 = .empty) : stepTok s p = .empty ∨ stepTok s p = ⟨#[0]⟩ := by
  unfold stepTok
  split
  · exact .inl h
  · exact .inr rfl
theorem step_is {s : ByteArray} {p : Nat} {w : ByteArray} (h1 : w ≠ .empty) (h2 : w ≠ ⟨#[0]⟩) : stepTok s p = w ↔ (tokR s p).1 = w := by
  by_cases h : (tokR s p).1 = .empty
  · constructor
    · intro e; rcases step_emp h with h3 | h3
      · rw [h3] at e; exact absurd e.symm h1
      · rw [h3] at e; exact absurd e.symm h2
    · intro e; rw [h] at e; exact absurd e.symm h1
  · rw [(step_tok h).1]
theorem step_isName {s : ByteArray} {p : Nat} : isNameB (stepTok s p) = isNameB (tokR s p).1 := by
  by_cases h : (tokR s p).1 = .empty
  · rw [h]
    rcases step_emp h with h3 | h3 <;> rw [h3]
    decide +kernel
  · rw [(step_tok h).1]

/-- what a scanner's Level does, by what the reference's reader reads -/
def LvQ (s : ByteArray) (r : Lvl × RS) (out : Out) (ob' : List Ob) : Prop :=
  (r.2.f = none → out = .ret (.d r.1.d) ∧ ob' = [scA s r.2.p]) ∧ (∀ a, r.2.f = some a → out = .pan (.d (fltD 1 a)) ∧ ob' = [.dead])
theorem LvQ.ok {s : ByteArray} {r : Lvl × RS} {out : Out} {ob' : List Ob} (hf : r.2.f = none) (h : out = .ret (.d r.1.d) ∧ ob' = [scA s r.2.p]) : LvQ s r out ob' :=
  ⟨fun _ => h, fun a e => by rw [hf] at e; cases e⟩
theorem LvQ.bad {s : ByteArray} {r : Lvl × RS} {out : Out} {ob' : List Ob} {a : Nat} (hf : r.2.f = some a) (h : out = .pan (.d (fltD 1 a)) ∧ ob' = [.dead]) : LvQ s r out ob' :=
  ⟨fun e => (by rw [hf] at e; cases e), fun b e => by rw [hf] at e; cases e; exact h⟩
theorem LvQ.ret {s : ByteArray} {r : Lvl × RS} {v : SV} {ob' : List Ob} (h : LvQ s r (.ret v) ob') : r.2.f = none ∧ v = .d r.1.d ∧ ob' = [scA s r.2.p] := by
  cases hf : r.2.f with
  | none =>
    obtain ⟨h1, h2⟩ := h.1 hf
    cases h1
    exact ⟨rfl, rfl, h2⟩
  | some a => obtain ⟨h1, _⟩ := h.2 a hf; cases h1
theorem LvQ.pan {s : ByteArray} {r : Lvl × RS} {v : SV} {ob' : List Ob} (h : LvQ s r (.pan v) ob') : ∃ a, r.2.f = some a ∧ v = .d (fltD 1 a) ∧ ob' = [.dead] := by
  cases hf : r.2.f with
  | none => obtain ⟨h1, _⟩ := h.1 hf; cases h1
  | some a =>
    obtain ⟨h1, h2⟩ := h.2 a hf
    cases h1
    exact ⟨a, rfl, rfl, h2⟩

theorem stake_spec (s : ByteArray) (hs : s.size ≤ 1099511627776) (b : Nat) (hb : b ≤ s.size) (tok w : ByteArray) (pos : Nat) :
    Tri Tryz.prog gl 105 [scO s b tok pos] [.blk 0 0, .d (.v (.string w))] fun out ob' => (tok = w ∧ out = .ret (.d (.tup [])) ∧ ob' = [scA s b]) ∨ (¬ tok = w ∧ out = .pan (.d (fltD 1 pos)) ∧ ob' = [scO s b tok pos]) := by
  by_cases h : tok = w
  · subst h; exact (take_ok s hs b hb tok pos).mono fun o b hq => .inl ⟨rfl, hq⟩
  · exact (take_bad s b tok w pos h).mono fun o b hq => .inr ⟨h, hq⟩
theorem takeR_some {s w : ByteArray} {p a : Nat} : (takeR s w ⟨p, some a⟩).f = some a := by
  unfold takeR; dsimp only; split <;> rfl
theorem takeR_yes {s w : ByteArray} {p : Nat} (hw : w ≠ .empty) (h : (tokR s p).1 = w) : takeR s w ⟨p, none⟩ = ⟨stepAt s p, none⟩ := by
  have hne : (tokR s p).1 ≠ .empty := by rw [h]; exact hw
  have h2 : (tokR s p).2.2 = true := by
    cases h3 : (tokR s p).2.2 with
    | true => rfl
    | false => exact absurd (tokR_empty h3) hne
  unfold takeR stepAt; dsimp only
  rw [if_neg (by rintro (h3 | h3); rw [h2] at h3; cases h3; exact h3 h), if_pos h2]
theorem takeR_no {s w : ByteArray} {p : Nat} (h : ¬ (tokR s p).1 = w) : (takeR s w ⟨p, none⟩).f = some (tokR s p).2.1 := by
  unfold takeR; dsimp only
  rw [if_pos (.inr h)]; rfl
theorem nextR_eq {s : ByteArray} {p : Nat} (h : (tokR s p).1 ≠ .empty) : (nextR s ⟨p, none⟩).2 = ⟨stepAt s p, none⟩ := by
  obtain ⟨_, ha, hf⟩ := step_tok h
  rw [ha]
  cases hx : (nextR s ⟨p, none⟩).2 with
  | mk q f => rw [hx] at hf; simp only at hf ⊢; rw [hf]

theorem levelR_some {s : ByteArray} {p a : Nat} : ∀ n, levelR n s ⟨p, some a⟩ = (zeroL, ⟨p, some a⟩)
  | 0 => rfl
  | _ + 1 => rfl
theorem kind_one {w : ByteArray} (h : kindR w = 1) : w = ⟨#[115]⟩ := by
  unfold kindR at h
  split at h
  · assumption
  · split at h
    · cases h
    · split at h <;> cases h
theorem kind_two {w : ByteArray} (h : kindR w = 2) : w = ⟨#[109, 97, 120]⟩ := by
  unfold kindR at h
  split at h
  · cases h
  · split at h
    · assumption
    · split at h <;> cases h
theorem kind_three {w : ByteArray} (h : kindR w = 3) : w = ⟨#[105, 109, 97, 120]⟩ := by
  unfold kindR at h
  split at h
  · cases h
  · split at h
    · cases h
    · split at h
      · assumption
      · cases h

theorem slevel_spec (s : ByteArray) (hs : s.size ≤ 1099511627776) : ∀ (n p : Nat), p ≤ s.size → s.size < n + p →
    Tri Tryz.prog gl 106 [scA s p] [.blk 0 0] (LvQ s (levelR n s ⟨p, none⟩)) := by
  intro n
  induction n with
  | zero => intro p hp hn; omega
  | succ n ih =>
    intro p hp hn
    have hsl := stepAt_le hp
    by_cases c0 : (tokR s p).1 = ⟨#[48]⟩
    · have ht : stepTok s p = ⟨#[48]⟩ := (step_is (by decide) (by decide)).2 c0
      obtain ⟨_, ha, hf⟩ := step_tok (s := s) (p := p) (by rw [c0]; decide)
      rw [levelR_zero c0]
      unfold scA scO
      rw [ht]
      refine triS_of_runs Tryz.func106 rfl Tryz.ntmps106 (rs := [.cell 2 45]) rfl rfl rfl 1 rfl ?_
      refine sr ?_; refine oc (T := fun _ => False) (alc ti45 ?_ (hl := by simp only [List.length_cons, List.length_nil, Nat.reduceAdd]; rfl)); refine nx ?_; refine runs_seq ?_; refine sr ?_; refine o1 (mv ?_); refine o1 (ncb ?_)
      refine o1 (fdb ti105 ?_); refine o1 (ldb ti9 ?_); refine nx ?_; refine runs_block ?_; refine sr ?_; refine o1 (seq1 ?_); refine o1 (asg ?_); refine nx ?_; refine cdf (fun h2 => ?_) (fun h2 => ?_)
      · simp only [nrm, Int.reduceEq, Int.reduceNe, Int.reduceLT, Int.reduceLE] at h2
      (try simp only [nrm, Int.reduceEq, Int.reduceNe, Int.reduceLT, Int.reduceLE] at h2); refine kp [2, 0] ?_; refine sr ?_; refine o1 (mv ?_)
      refine oc (ck ca101 rfl rfl (step_spec s hs (stepAt s p) hsl.2 ⟨#[48]⟩ (tokR s p).2.1) [0] rfl (boc .nil) (fir .nil) ?_); refine nx ?_; refine sr ?_; refine o1 (bld ti45 ?_); refine oc (sto ti45 ?_); refine nx ?_; refine runs_ret ?_
      refine inb_ret ?_; refine seq_ret ?_; refine fin_ret ?_
      refine fin_odl ⟨_, _, rfl, (from_cell rfl rfl ti45 rfl rfl rfl rfl), rfl⟩ rfl (zeroL.d) (by repeat (first | exact .refl _ | exact .nil | refine .agg ?_ | refine .cons ?_ ?_)) ([0]) ([scA s (stepAt s p)]) rfl rfl rfl ?_ ?_
      · repeat (first | exact boz | refine boc ?_)
      · exact LvQ.ok hf ⟨rfl, by rw [ha]⟩
    have c0' : ¬ stepTok s p = ⟨#[48]⟩ := fun e => c0 ((step_is (by decide) (by decide)).1 e)
    cases c1 : isNameB (tokR s p).1 with
    | true =>
      have hne : (tokR s p).1 ≠ .empty := by
        intro e; rw [e] at c1; simp [isNameB] at c1
      obtain ⟨ht, ha, hf⟩ := step_tok hne
      have c2' : ¬ stepTok s p = ⟨#[40]⟩ := by
        intro e; rw [ht] at e; rw [e] at c1; exact absurd c1 (by decide +kernel)
      rw [levelR_name c0 c1]
      rw [← ht] at c1
      unfold scA scO
      refine triS_of_runs Tryz.func106 rfl Tryz.ntmps106 (rs := [.cell 2 45]) rfl rfl rfl 1 rfl ?_
      refine sr ?_; refine oc (T := fun _ => False) (alc ti45 ?_ (hl := by simp only [List.length_cons, List.length_nil, Nat.reduceAdd]; rfl)); refine nx ?_; refine runs_seq ?_; refine sr ?_; refine o1 (mv ?_); refine o1 (ncb ?_)
      refine o1 (fdb ti105 ?_); refine o1 (ldb ti9 ?_); refine nx ?_; refine runs_block ?_; refine sr ?_; refine o1 (seq1 ?_); refine o1 (asg ?_); refine nx ?_; refine cd (fun h2 => ?_) (fun h2 => ?_)
      · (try simp only [nrm, Int.reduceEq, Int.reduceNe, Int.reduceLT, Int.reduceLE] at h2); contradiction
      (try simp only [nrm, Int.reduceEq, Int.reduceNe, Int.reduceLT, Int.reduceLE] at h2); refine kp [7, 2, 0] ?_; refine sr ?_; refine o1 (seq1 ?_); refine o1 (asg ?_); refine nx ?_; refine cd (fun h5 => ?_) (fun h5 => ?_)
      · (try simp only [nrm, Int.reduceEq, Int.reduceNe, Int.reduceLT, Int.reduceLE] at h5); contradiction
      (try simp only [nrm, Int.reduceEq, Int.reduceNe, Int.reduceLT, Int.reduceLE] at h5); refine runs_skip ?_; refine inb_normal ?_; refine seq_normal ?_; refine sr ?_; refine o1 (mv ?_)
      refine oc (ck ca107 rfl rfl (name_ok s hs (stepAt s p) hsl.2 (stepTok s p) (tokR s p).2.1 c1) [0] rfl (boc .nil) (fir .nil) ?_); refine o1 (bld ti45 ?_); refine oc (sto ti45 ?_); refine nx ?_; refine runs_ret ?_; refine fin_ret ?_
      refine fin_odl ⟨_, _, rfl, (from_cell rfl rfl ti45 rfl rfl rfl rfl), rfl⟩ rfl ((Lvl.mk 4 (stepTok s p) []).d) (by repeat (first | exact .refl _ | exact .nil | refine .agg ?_ | refine .cons ?_ ?_)) ([0]) ([scA s (stepAt s p)]) rfl rfl rfl ?_ ?_
      · repeat (first | exact boz | refine boc ?_)
      · exact LvQ.ok hf ⟨by rw [ht], by rw [ha]⟩
    | false =>
      by_cases c2 : (tokR s p).1 = ⟨#[40]⟩
      · have hne : (tokR s p).1 ≠ .empty := by rw [c2]; decide
        have ht : stepTok s p = ⟨#[40]⟩ := (step_is (by decide) (by decide)).2 c2
        have e1 := nextR_eq hne
        rcases kindR_case (tokR s (stepAt s p)).1 with hk | ⟨hk, hne2⟩
        · rw [levelR_kind c0 c1 c2 (by rw [e1]; exact hk), e1]
          have k1 : ∀ w, kindR w ≠ 0 → w ≠ .empty → w ≠ ⟨#[0]⟩ → ¬ stepTok s (stepAt s p) = w := fun w h1 h2 h3 e => by
            rw [(step_is h2 h3).1 e] at hk; exact h1 hk
          unfold scA scO
          rw [ht]
          refine triS_of_runs Tryz.func106 rfl Tryz.ntmps106 (rs := [.cell 2 45]) rfl rfl rfl 1 rfl ?_
          refine sr ?_; refine oc (T := fun _ => False) (alc ti45 ?_ (hl := by simp only [List.length_cons, List.length_nil, Nat.reduceAdd]; rfl)); refine nx ?_; refine runs_seq ?_; refine sr ?_; refine o1 (mv ?_); refine o1 (ncb ?_)
          refine o1 (fdb ti105 ?_); refine o1 (ldb ti9 ?_); refine nx ?_; refine runs_block ?_; refine sr ?_; refine o1 (seq1 ?_); refine o1 (asg ?_); refine nx ?_; refine cd (fun h2 => ?_) (fun h2 => ?_)
          · (try simp only [nrm, Int.reduceEq, Int.reduceNe, Int.reduceLT, Int.reduceLE] at h2); contradiction
          (try simp only [nrm, Int.reduceEq, Int.reduceNe, Int.reduceLT, Int.reduceLE] at h2); refine kp [7, 2, 0] ?_; refine sr ?_; refine o1 (seq1 ?_); refine o1 (asg ?_); refine nx ?_; refine cdf (fun h5 => ?_) (fun h5 => ?_)
          · simp only [nrm, Int.reduceEq, Int.reduceNe, Int.reduceLT, Int.reduceLE] at h5
          (try simp only [nrm, Int.reduceEq, Int.reduceNe, Int.reduceLT, Int.reduceLE] at h5); refine sr ?_; refine o1 (mv ?_); refine oc (ck ca101 rfl rfl (step_spec s hs (stepAt s p) hsl.2 ⟨#[40]⟩ (tokR s p).2.1) [0] rfl (boc .nil) (fir .nil) ?_)
          refine nx ?_; refine kp [2, 0] ?_; refine sr ?_; refine oc (T := fun _ => False) (alc ti45 ?_ (hl := by simp only [List.length_cons, List.length_nil, Nat.reduceAdd]; rfl)); refine nx ?_; refine runs_seq ?_; refine sr ?_; refine o1 (mv ?_)
          refine o1 (ncb ?_); refine o1 (fdb ti105 ?_); refine o1 (ldb ti9 ?_); refine nx ?_; refine runs_block ?_; refine sr ?_; refine o1 (seq1 ?_); refine o1 (asg ?_); refine nx ?_; refine cd (fun h10 => ?_) (fun h10 => ?_)
          · (try simp only [nrm, Int.reduceEq, Int.reduceNe, Int.reduceLT, Int.reduceLE] at h10); exfalso; exact k1 _ (by decide) (by decide) (by decide) h10
          (try simp only [nrm, Int.reduceEq, Int.reduceNe, Int.reduceLT, Int.reduceLE] at h10); refine kp [20, 3, 2, 0] ?_; refine sr ?_; refine o1 (seq1 ?_); refine o1 (asg ?_); refine nx ?_; refine cd (fun h12 => ?_) (fun h12 => ?_)
          · (try simp only [nrm, Int.reduceEq, Int.reduceNe, Int.reduceLT, Int.reduceLE] at h12); exfalso; exact k1 _ (by decide) (by decide) (by decide) h12
          (try simp only [nrm, Int.reduceEq, Int.reduceNe, Int.reduceLT, Int.reduceLE] at h12); refine sr ?_; refine o1 (seq1 ?_); refine o1 (asg ?_); refine nx ?_; refine cd (fun h14 => ?_) (fun h14 => ?_)
          · (try simp only [nrm, Int.reduceEq, Int.reduceNe, Int.reduceLT, Int.reduceLE] at h14); exfalso; exact k1 _ (by decide) (by decide) (by decide) h14
          (try simp only [nrm, Int.reduceEq, Int.reduceNe, Int.reduceLT, Int.reduceLE] at h14); refine kp [3, 2, 0] ?_; refine runs_region ?_; refine o1 (mv ?_)
          refine oc (op_callo ca104 rfl rfl rfl rfl (sfail_spec s (stepAt s (stepAt s p)) (stepTok s (stepAt s p)) (tokR s (stepAt s p)).2.1) [0] (boc .nil) rfl rfl rfl rfl (fir .nil) (fun s ob' hq => ?_) (fun s ob' hq => ?_))
          · cases hq.1
          obtain ⟨hq1, rfl⟩ := hq; cases hq1; refine ⟨_, _, _, _, _, rfl, rfl, rfl, rfl, rfl, ?_⟩; refine leave_d ([0]) ([.dead]) rfl rfl rfl (by repeat (first | exact boz | refine bod ?_)) ?_
          exact LvQ.bad (a := (tokR s (stepAt s p)).2.1) rfl ⟨rfl, rfl⟩
        · have e2 := nextR_eq hne2
          have hl2 := stepAt_le hsl.2
          have hl1 : p < stepAt s p := by
            have h7 := tokR_at (s := s) hp
            have h8 := size_pos_of_ne hne
            have h9 := step_tok hne
            rw [h9.2.1, nextR_ok hne]; simp only; omega
          have ih1 := ih (stepAt s (stepAt s p)) hl2.2 (by omega)
          have hle1 := levelR_le (s := s) n (r := ⟨stepAt s (stepAt s p), none⟩) hl2.2
          rcases hk with hk | hk | hk
          · rw [levelR_one c0 c1 c2 (by rw [e1]; exact hk), e1, e2]
            have t2 : stepTok s (stepAt s p) = ⟨#[115]⟩ := (step_is (by decide) (by decide)).2 (kind_one hk)
            rcases hla : levelR n s ⟨stepAt s (stepAt s p), none⟩ with ⟨la, pa, fa⟩
            rw [hla] at ih1 hle1
            obtain ⟨ka, na, aa⟩ := la
            simp only at hle1
            unfold scA scO
            unfold scA scO at ih1
            rw [ht]
            refine triS_of_runs Tryz.func106 rfl Tryz.ntmps106 (rs := [.cell 2 45]) rfl rfl rfl 1 rfl ?_
            refine sr ?_; refine oc (T := fun _ => False) (alc ti45 ?_ (hl := by simp only [List.length_cons, List.length_nil, Nat.reduceAdd]; rfl)); refine nx ?_; refine runs_seq ?_; refine sr ?_; refine o1 (mv ?_); refine o1 (ncb ?_)
            refine o1 (fdb ti105 ?_); refine o1 (ldb ti9 ?_); refine nx ?_; refine runs_block ?_; refine sr ?_; refine o1 (seq1 ?_); refine o1 (asg ?_); refine nx ?_; refine cd (fun h2 => ?_) (fun h2 => ?_)
            · (try simp only [nrm, Int.reduceEq, Int.reduceNe, Int.reduceLT, Int.reduceLE] at h2); contradiction
            (try simp only [nrm, Int.reduceEq, Int.reduceNe, Int.reduceLT, Int.reduceLE] at h2); refine kp [7, 2, 0] ?_; refine sr ?_; refine o1 (seq1 ?_); refine o1 (asg ?_); refine nx ?_; refine cdf (fun h5 => ?_) (fun h5 => ?_)
            · simp only [nrm, Int.reduceEq, Int.reduceNe, Int.reduceLT, Int.reduceLE] at h5
            (try simp only [nrm, Int.reduceEq, Int.reduceNe, Int.reduceLT, Int.reduceLE] at h5); refine sr ?_; refine o1 (mv ?_)
            refine oc (op_callo ca101 rfl rfl rfl rfl (step_spec s hs (stepAt s p) hsl.2 ⟨#[40]⟩ (tokR s p).2.1) [0] (boc .nil) rfl rfl rfl rfl (fir .nil) (fun s ob' hq => ?_) (fun s ob' hq => ?_))
            rotate_left
            · first | exact hq.elim | cases hq.1
            obtain ⟨hq1, rfl⟩ := hq; cases hq1
            unfold scO
            rw [t2]
            refine ⟨_, _, _, _, _, rfl, rfl, rfl, rfl, rfl, ?_⟩; refine nx ?_; refine kp [2, 0] ?_; refine sr ?_; refine oc (T := fun _ => False) (alc ti45 ?_ (hl := by simp only [List.length_cons, List.length_nil, Nat.reduceAdd]; rfl)); refine nx ?_
            refine runs_seq ?_; refine sr ?_; refine o1 (mv ?_); refine o1 (ncb ?_); refine o1 (fdb ti105 ?_); refine o1 (ldb ti9 ?_); refine nx ?_; refine runs_block ?_; refine sr ?_; refine o1 (seq1 ?_); refine o1 (asg ?_); refine nx ?_
            refine cdf (fun h10 => ?_) (fun h10 => ?_)
            · simp only [nrm, Int.reduceEq, Int.reduceNe, Int.reduceLT, Int.reduceLE] at h10
            (try simp only [nrm, Int.reduceEq, Int.reduceNe, Int.reduceLT, Int.reduceLE] at h10); refine kp [3, 2, 0] ?_; refine runs_region ?_; refine o1 (fdb ti45 ?_); refine oc (sto ti3 ?_); refine ops_nil ?_; refine inb_normal ?_
            refine seq_normal ?_; refine sr ?_; refine o1 (mv ?_); refine oc (ck ca101 rfl rfl (step_spec s hs (stepAt s (stepAt s p)) hl2.2 ⟨#[115]⟩ (tokR s (stepAt s p)).2.1) [0] rfl (boc .nil) (fir .nil) ?_); refine nx ?_; refine runs_seq ?_
            skip
            refine a_start ?_ (hm := by exact mixed); refine A1 0 rfl (fdb ti45 ⟨_, rfl, ?_⟩); refine A1 1 rfl (ldb ti28 ⟨_, rfl, ?_⟩); refine A1 2 rfl (mv ⟨_, rfl, ?_⟩)
            refine A2 3 rfl (op_callo ca106 rfl rfl rfl rfl (ih1) [0] (boc .nil) rfl rfl rfl rfl (fir .nil) (fun s ob' hq => ?_) (fun s ob' hq => ?_))
            rotate_left
            · obtain ⟨a, hfa, rfl, rfl⟩ := hq.pan
              refine ⟨_, _, _, _, _, rfl, rfl, rfl, rfl, rfl, ?_⟩; refine leave_d ([0]) ([.dead]) rfl rfl rfl (by repeat (first | exact boz | refine bod ?_)) ?_
              simp only at hfa; subst hfa; exact LvQ.bad takeR_some ⟨rfl, rfl⟩
            obtain ⟨hfa, rfl, rfl⟩ := hq.ret; simp only at hfa; subst hfa; refine ⟨_, _, _, _, _, rfl, rfl, rfl, rfl, rfl, ?_⟩
            refine A2 (T := fun _ => False) 4 rfl (op_lit sl28 [.tmp 37] ti45 rfl rfl rfl rfl rfl rfl rfl (by decide) (by decide) (by decide) (by simp only [List.length_cons, List.length_nil, Nat.reduceAdd]; rfl) rfl ?_)
            refine A2 (T := fun _ => False) 5 rfl (op_append_nil sl28 rfl rfl rfl rfl rfl rfl (by simp only [List.length_cons, List.length_nil, Nat.reduceAdd]; rfl) rfl rfl (by decide) (by simp) (by first | decide | (simp only [maxLen, List.length_cons, List.length_nil, List.length_append, List.length_map]; omega) | omega) rfl rfl rfl ?_)
            refine A1 6 rfl (fdb ti45 ⟨_, rfl, ?_⟩); refine A2 7 rfl (sto ti28 ?_); refine a_end ?_; refine seq_normal ?_; refine runs_seq ?_; refine kp [3, 2, 0] ?_; refine sr ?_; refine o1 (fdb ti45 ?_); refine o1 (ldb ti3 ?_); refine o1 (ine ?_)
            refine nx ?_; refine cd (fun h18 => ?_) (fun h18 => ?_)
            · simp only [nrm, Int.reduceEq, Int.reduceNe, Int.reduceLT, Int.reduceLE] at h18
            (try simp only [nrm, Int.reduceEq, Int.reduceNe, Int.reduceLT, Int.reduceLE] at h18); refine runs_skip ?_; refine seq_normal ?_; refine sr ?_; refine o1 (mv ?_)
            refine oc (op_callo ca105 rfl rfl rfl rfl (stake_spec s hs (stepAt s pa) (stepAt_le hle1.2).2 (stepTok s pa) ⟨#[41]⟩ (tokR s pa).2.1) [0] (boc .nil) rfl rfl rfl rfl (fir (fir .nil)) (fun s ob' hq => ?_) (fun s ob' hq => ?_))
            rotate_left
            · rcases hq with ⟨_, hq1, _⟩ | ⟨htk, hq1, rfl⟩
              · cases hq1
              cases hq1; refine ⟨_, _, _, _, _, rfl, rfl, rfl, rfl, rfl, ?_⟩; refine leave_d ([0]) ([.dead]) rfl rfl rfl (by repeat (first | exact boz | refine bod ?_)) ?_
              exact LvQ.bad (takeR_no fun e => htk ((step_is (by decide) (by decide)).2 e)) ⟨rfl, rfl⟩
            rcases hq with ⟨htk, hq1, rfl⟩ | ⟨_, hq1, _⟩
            rotate_left
            · cases hq1
            cases hq1; refine ⟨_, _, _, _, _, rfl, rfl, rfl, rfl, rfl, ?_⟩; refine nx ?_; refine kp [3, 2] ?_; refine sr ?_; refine o1 (ldb ti45 ?_); refine oc (sto ti45 ?_); refine nx ?_; refine runs_ret ?_; refine inb_ret ?_; refine seq_ret ?_
            refine fin_ret ?_; refine fin_odl ⟨_, _, rfl, (from_cell rfl rfl ti45 rfl rfl rfl rfl), rfl⟩ rfl ((Lvl.mk 1 .empty [.mk ka na aa]).d) (by exact .refl _) ([0]) ([scA s (stepAt s pa)]) rfl rfl rfl ?_ ?_
            · repeat (first | exact boz | refine boc ?_)
            · rw [takeR_yes (by decide) ((step_is (by decide) (by decide)).1 htk)]
              exact LvQ.ok rfl ⟨rfl, rfl⟩
          · rw [levelR_two c0 c1 c2 (by rw [e1]; simp only [hk]; decide) (by rw [e1]; simp only [hk]; decide), e1, e2, hk]
            have t2 : stepTok s (stepAt s p) = ⟨#[109, 97, 120]⟩ := (step_is (by decide) (by decide)).2 (kind_two hk)
            rcases hla : levelR n s ⟨stepAt s (stepAt s p), none⟩ with ⟨la, pa, fa⟩
            rw [hla] at ih1 hle1
            obtain ⟨ka, na, aa⟩ := la
            simp only at hle1
            have ih2 := fun h => ih pa hle1.2 h
            have hle2 := levelR_le (s := s) n (r := ⟨pa, none⟩) hle1.2
            unfold scA scO
            unfold scA scO at ih1 ih2
            rw [ht]
            refine triS_of_runs Tryz.func106 rfl Tryz.ntmps106 (rs := [.cell 2 45]) rfl rfl rfl 1 rfl ?_
            refine sr ?_; refine oc (T := fun _ => False) (alc ti45 ?_ (hl := by simp only [List.length_cons, List.length_nil, Nat.reduceAdd]; rfl)); refine nx ?_; refine runs_seq ?_; refine sr ?_; refine o1 (mv ?_); refine o1 (ncb ?_)
            refine o1 (fdb ti105 ?_); refine o1 (ldb ti9 ?_); refine nx ?_; refine runs_block ?_; refine sr ?_; refine o1 (seq1 ?_); refine o1 (asg ?_); refine nx ?_; refine cd (fun h2 => ?_) (fun h2 => ?_)
            · (try simp only [nrm, Int.reduceEq, Int.reduceNe, Int.reduceLT, Int.reduceLE] at h2); contradiction
            (try simp only [nrm, Int.reduceEq, Int.reduceNe, Int.reduceLT, Int.reduceLE] at h2); refine kp [7, 2, 0] ?_; refine sr ?_; refine o1 (seq1 ?_); refine o1 (asg ?_); refine nx ?_; refine cdf (fun h5 => ?_) (fun h5 => ?_)
            · simp only [nrm, Int.reduceEq, Int.reduceNe, Int.reduceLT, Int.reduceLE] at h5
            (try simp only [nrm, Int.reduceEq, Int.reduceNe, Int.reduceLT, Int.reduceLE] at h5); refine sr ?_; refine o1 (mv ?_)
            refine oc (op_callo ca101 rfl rfl rfl rfl (step_spec s hs (stepAt s p) hsl.2 ⟨#[40]⟩ (tokR s p).2.1) [0] (boc .nil) rfl rfl rfl rfl (fir .nil) (fun s ob' hq => ?_) (fun s ob' hq => ?_))
            rotate_left
            · first | exact hq.elim | cases hq.1
            obtain ⟨hq1, rfl⟩ := hq; cases hq1
            unfold scO
            rw [t2]
            refine ⟨_, _, _, _, _, rfl, rfl, rfl, rfl, rfl, ?_⟩; refine nx ?_; refine kp [2, 0] ?_; refine sr ?_; refine oc (T := fun _ => False) (alc ti45 ?_ (hl := by simp only [List.length_cons, List.length_nil, Nat.reduceAdd]; rfl)); refine nx ?_
            refine runs_seq ?_; refine sr ?_; refine o1 (mv ?_); refine o1 (ncb ?_); refine o1 (fdb ti105 ?_); refine o1 (ldb ti9 ?_); refine nx ?_; refine runs_block ?_; refine sr ?_; refine o1 (seq1 ?_); refine o1 (asg ?_); refine nx ?_
            refine cd (fun h10 => ?_) (fun h10 => ?_)
            · (try simp only [nrm, Int.reduceEq, Int.reduceNe, Int.reduceLT, Int.reduceLE] at h10); contradiction
            (try simp only [nrm, Int.reduceEq, Int.reduceNe, Int.reduceLT, Int.reduceLE] at h10); refine kp [20, 3, 2, 0] ?_; refine sr ?_; refine o1 (seq1 ?_); refine o1 (asg ?_); refine nx ?_; refine cdf (fun h12 => ?_) (fun h12 => ?_)
            · simp only [nrm, Int.reduceEq, Int.reduceNe, Int.reduceLT, Int.reduceLE] at h12
            (try simp only [nrm, Int.reduceEq, Int.reduceNe, Int.reduceLT, Int.reduceLE] at h12); refine runs_region ?_; refine o1 (fdb ti45 ?_); refine oc (sto ti3 ?_); refine ops_nil ?_; refine inb_normal ?_; refine seq_normal ?_
            refine kp [3, 2, 0] ?_; refine sr ?_; refine o1 (mv ?_); refine oc (ck ca101 rfl rfl (step_spec s hs (stepAt s (stepAt s p)) hl2.2 ⟨#[109, 97, 120]⟩ (tokR s (stepAt s p)).2.1) [0] rfl (boc .nil) (fir .nil) ?_); refine nx ?_
            refine runs_seq ?_; refine a_start ?_ (hm := by exact mixed); refine A1 0 rfl (fdb ti45 ⟨_, rfl, ?_⟩); refine A1 1 rfl (ldb ti28 ⟨_, rfl, ?_⟩); refine A1 2 rfl (mv ⟨_, rfl, ?_⟩)
            refine A2 3 rfl (op_callo ca106 rfl rfl rfl rfl (ih1) [0] (boc .nil) rfl rfl rfl rfl (fir .nil) (fun s ob' hq => ?_) (fun s ob' hq => ?_))
            rotate_left
            · obtain ⟨a, hfa, rfl, rfl⟩ := hq.pan
              refine ⟨_, _, _, _, _, rfl, rfl, rfl, rfl, rfl, ?_⟩; refine leave_d ([0]) ([.dead]) rfl rfl rfl (by repeat (first | exact boz | refine bod ?_)) ?_
              simp only at hfa; subst hfa; rw [levelR_some]; exact LvQ.bad takeR_some ⟨rfl, rfl⟩
            obtain ⟨hfa, rfl, rfl⟩ := hq.ret; simp only at hfa; subst hfa; refine ⟨_, _, _, _, _, rfl, rfl, rfl, rfl, rfl, ?_⟩
            refine A2 (T := fun _ => False) 4 rfl (op_lit sl28 [.tmp 37] ti45 rfl rfl rfl rfl rfl rfl rfl (by decide) (by decide) (by decide) (by simp only [List.length_cons, List.length_nil, Nat.reduceAdd]; rfl) rfl ?_)
            refine A2 (T := fun _ => False) 5 rfl (op_append_nil sl28 rfl rfl rfl rfl rfl rfl (by simp only [List.length_cons, List.length_nil, Nat.reduceAdd]; rfl) rfl rfl (by decide) (by simp) (by first | decide | (simp only [maxLen, List.length_cons, List.length_nil, List.length_append, List.length_map]; omega) | omega) rfl rfl rfl ?_)
            refine A1 6 rfl (fdb ti45 ⟨_, rfl, ?_⟩); refine A2 7 rfl (sto ti28 ?_); refine a_end ?_; refine seq_normal ?_; refine runs_seq ?_; refine kp [3, 2, 0] ?_; refine sr ?_; refine o1 (fdb ti45 ?_); refine o1 (ldb ti3 ?_); refine o1 (ine ?_)
            refine nx ?_; refine cdf (fun h18 => ?_) (fun h18 => ?_)
            · simp only [nrm, Int.reduceEq, Int.reduceNe, Int.reduceLT, Int.reduceLE] at h18
            (try simp only [nrm, Int.reduceEq, Int.reduceNe, Int.reduceLT, Int.reduceLE] at h18)
            have ih3 := ih2 (by omega)
            rcases hlb : levelR n s ⟨pa, none⟩ with ⟨lb, pb, fb⟩
            rw [hlb] at ih3 hle2
            obtain ⟨kb, nb, ab⟩ := lb
            simp only at hle2
            refine a_start ?_ (hm := by exact mixed); refine A1 0 rfl (fdb ti45 ⟨_, rfl, ?_⟩); refine A1 1 rfl (ldb ti28 ⟨_, rfl, ?_⟩); refine A1 2 rfl (mv ⟨_, rfl, ?_⟩)
            refine A2 3 rfl (op_callo ca106 rfl rfl rfl rfl (ih3) [0] (boc .nil) rfl rfl rfl rfl (fir .nil) (fun s ob' hq => ?_) (fun s ob' hq => ?_))
            rotate_left
            · obtain ⟨a, hfa, rfl, rfl⟩ := hq.pan
              refine ⟨_, _, _, _, _, rfl, rfl, rfl, rfl, rfl, ?_⟩; refine leave_d ([0]) ([.dead]) rfl rfl rfl (by repeat (first | exact boz | refine bod ?_)) ?_
              simp only at hfa; subst hfa; exact LvQ.bad takeR_some ⟨rfl, rfl⟩
            obtain ⟨hfb, rfl, rfl⟩ := hq.ret; simp only at hfb; subst hfb; refine ⟨_, _, _, _, _, rfl, rfl, rfl, rfl, rfl, ?_⟩
            refine A2 (T := fun _ => False) 4 rfl (op_lit sl28 [.tmp 47] ti45 rfl rfl rfl rfl rfl rfl rfl (by decide) (by decide) (by decide) (by simp only [List.length_cons, List.length_nil, Nat.reduceAdd]; rfl) rfl ?_)
            refine A2 5 rfl (op_append sl28 rfl rfl rfl rfl rfl rfl rfl (.inl rfl) (by decide) (by simp) (by first | decide | (simp only [maxLen, List.length_cons, List.length_nil, List.length_append, List.length_map]; omega) | omega) rfl rfl rfl ?_)
            refine A1 6 rfl (fdb ti45 ⟨_, rfl, ?_⟩); refine A2 7 rfl (sto ti28 ?_); refine a_end ?_; refine seq_normal ?_; refine kp [3, 2, 0] ?_; refine sr ?_; refine o1 (mv ?_)
            refine oc (op_callo ca105 rfl rfl rfl rfl (stake_spec s hs (stepAt s pb) (stepAt_le hle2.2).2 (stepTok s pb) ⟨#[41]⟩ (tokR s pb).2.1) [0] (boc .nil) rfl rfl rfl rfl (fir (fir .nil)) (fun s ob' hq => ?_) (fun s ob' hq => ?_))
            rotate_left
            · rcases hq with ⟨_, hq1, _⟩ | ⟨htk, hq1, rfl⟩
              · cases hq1
              cases hq1; refine ⟨_, _, _, _, _, rfl, rfl, rfl, rfl, rfl, ?_⟩; refine leave_d ([0]) ([.dead]) rfl rfl rfl (by repeat (first | exact boz | refine bod ?_)) ?_
              exact LvQ.bad (takeR_no fun e => htk ((step_is (by decide) (by decide)).2 e)) ⟨rfl, rfl⟩
            rcases hq with ⟨htk, hq1, rfl⟩ | ⟨_, hq1, _⟩
            rotate_left
            · cases hq1
            cases hq1; refine ⟨_, _, _, _, _, rfl, rfl, rfl, rfl, rfl, ?_⟩; refine nx ?_; refine sr ?_; refine o1 (ldb ti45 ?_); refine oc (sto ti45 ?_); refine nx ?_; refine runs_ret ?_; refine inb_ret ?_; refine seq_ret ?_; refine fin_ret ?_
            refine fin_odl ⟨_, _, rfl, (from_cell rfl rfl ti45 rfl rfl rfl rfl), rfl⟩ rfl ((Lvl.mk 2 .empty [.mk ka na aa, .mk kb nb ab]).d) (by exact .refl _) ([0]) ([scA s (stepAt s pb)]) rfl rfl rfl ?_ ?_
            · repeat (first | exact boz | refine boc ?_)
            · rw [takeR_yes (by decide) ((step_is (by decide) (by decide)).1 htk)]
              exact LvQ.ok rfl ⟨rfl, rfl⟩
          · rw [levelR_two c0 c1 c2 (by rw [e1]; simp only [hk]; decide) (by rw [e1]; simp only [hk]; decide), e1, e2, hk]
            have t2 : stepTok s (stepAt s p) = ⟨#[105, 109, 97, 120]⟩ := (step_is (by decide) (by decide)).2 (kind_three hk)
            rcases hla : levelR n s ⟨stepAt s (stepAt s p), none⟩ with ⟨la, pa, fa⟩
            rw [hla] at ih1 hle1
            obtain ⟨ka, na, aa⟩ := la
            simp only at hle1
            have ih2 := fun h => ih pa hle1.2 h
            have hle2 := levelR_le (s := s) n (r := ⟨pa, none⟩) hle1.2
            unfold scA scO
            unfold scA scO at ih1 ih2
            rw [ht]
            refine triS_of_runs Tryz.func106 rfl Tryz.ntmps106 (rs := [.cell 2 45]) rfl rfl rfl 1 rfl ?_
            refine sr ?_; refine oc (T := fun _ => False) (alc ti45 ?_ (hl := by simp only [List.length_cons, List.length_nil, Nat.reduceAdd]; rfl)); refine nx ?_; refine runs_seq ?_; refine sr ?_; refine o1 (mv ?_); refine o1 (ncb ?_)
            refine o1 (fdb ti105 ?_); refine o1 (ldb ti9 ?_); refine nx ?_; refine runs_block ?_; refine sr ?_; refine o1 (seq1 ?_); refine o1 (asg ?_); refine nx ?_; refine cd (fun h2 => ?_) (fun h2 => ?_)
            · (try simp only [nrm, Int.reduceEq, Int.reduceNe, Int.reduceLT, Int.reduceLE] at h2); contradiction
            (try simp only [nrm, Int.reduceEq, Int.reduceNe, Int.reduceLT, Int.reduceLE] at h2); refine kp [7, 2, 0] ?_; refine sr ?_; refine o1 (seq1 ?_); refine o1 (asg ?_); refine nx ?_; refine cdf (fun h5 => ?_) (fun h5 => ?_)
            · simp only [nrm, Int.reduceEq, Int.reduceNe, Int.reduceLT, Int.reduceLE] at h5
            (try simp only [nrm, Int.reduceEq, Int.reduceNe, Int.reduceLT, Int.reduceLE] at h5); refine sr ?_; refine o1 (mv ?_)
            refine oc (op_callo ca101 rfl rfl rfl rfl (step_spec s hs (stepAt s p) hsl.2 ⟨#[40]⟩ (tokR s p).2.1) [0] (boc .nil) rfl rfl rfl rfl (fir .nil) (fun s ob' hq => ?_) (fun s ob' hq => ?_))
            rotate_left
            · first | exact hq.elim | cases hq.1
            obtain ⟨hq1, rfl⟩ := hq; cases hq1
            unfold scO
            rw [t2]
            refine ⟨_, _, _, _, _, rfl, rfl, rfl, rfl, rfl, ?_⟩; refine nx ?_; refine kp [2, 0] ?_; refine sr ?_; refine oc (T := fun _ => False) (alc ti45 ?_ (hl := by simp only [List.length_cons, List.length_nil, Nat.reduceAdd]; rfl)); refine nx ?_
            refine runs_seq ?_; refine sr ?_; refine o1 (mv ?_); refine o1 (ncb ?_); refine o1 (fdb ti105 ?_); refine o1 (ldb ti9 ?_); refine nx ?_; refine runs_block ?_; refine sr ?_; refine o1 (seq1 ?_); refine o1 (asg ?_); refine nx ?_
            refine cd (fun h10 => ?_) (fun h10 => ?_)
            · (try simp only [nrm, Int.reduceEq, Int.reduceNe, Int.reduceLT, Int.reduceLE] at h10); contradiction
            (try simp only [nrm, Int.reduceEq, Int.reduceNe, Int.reduceLT, Int.reduceLE] at h10); refine kp [20, 3, 2, 0] ?_; refine sr ?_; refine o1 (seq1 ?_); refine o1 (asg ?_); refine nx ?_; refine cd (fun h12 => ?_) (fun h12 => ?_)
            · (try simp only [nrm, Int.reduceEq, Int.reduceNe, Int.reduceLT, Int.reduceLE] at h12); contradiction
            (try simp only [nrm, Int.reduceEq, Int.reduceNe, Int.reduceLT, Int.reduceLE] at h12); refine sr ?_; refine o1 (seq1 ?_); refine o1 (asg ?_); refine nx ?_; refine cdf (fun h14 => ?_) (fun h14 => ?_)
            · simp only [nrm, Int.reduceEq, Int.reduceNe, Int.reduceLT, Int.reduceLE] at h14
            (try simp only [nrm, Int.reduceEq, Int.reduceNe, Int.reduceLT, Int.reduceLE] at h14); refine kp [3, 2, 0] ?_; refine runs_region ?_; refine o1 (fdb ti45 ?_); refine oc (sto ti3 ?_); refine ops_nil ?_; refine inb_normal ?_
            refine seq_normal ?_; refine sr ?_; refine o1 (mv ?_); refine oc (ck ca101 rfl rfl (step_spec s hs (stepAt s (stepAt s p)) hl2.2 ⟨#[105, 109, 97, 120]⟩ (tokR s (stepAt s p)).2.1) [0] rfl (boc .nil) (fir .nil) ?_); refine nx ?_
            refine runs_seq ?_; refine a_start ?_ (hm := by exact mixed); refine A1 0 rfl (fdb ti45 ⟨_, rfl, ?_⟩); refine A1 1 rfl (ldb ti28 ⟨_, rfl, ?_⟩); refine A1 2 rfl (mv ⟨_, rfl, ?_⟩)
            refine A2 3 rfl (op_callo ca106 rfl rfl rfl rfl (ih1) [0] (boc .nil) rfl rfl rfl rfl (fir .nil) (fun s ob' hq => ?_) (fun s ob' hq => ?_))
            rotate_left
            · obtain ⟨a, hfa, rfl, rfl⟩ := hq.pan
              refine ⟨_, _, _, _, _, rfl, rfl, rfl, rfl, rfl, ?_⟩; refine leave_d ([0]) ([.dead]) rfl rfl rfl (by repeat (first | exact boz | refine bod ?_)) ?_
              simp only at hfa; subst hfa; rw [levelR_some]; exact LvQ.bad takeR_some ⟨rfl, rfl⟩
            obtain ⟨hfa, rfl, rfl⟩ := hq.ret; simp only at hfa; subst hfa; refine ⟨_, _, _, _, _, rfl, rfl, rfl, rfl, rfl, ?_⟩
            refine A2 (T := fun _ => False) 4 rfl (op_lit sl28 [.tmp 37] ti45 rfl rfl rfl rfl rfl rfl rfl (by decide) (by decide) (by decide) (by simp only [List.length_cons, List.length_nil, Nat.reduceAdd]; rfl) rfl ?_)
            refine A2 (T := fun _ => False) 5 rfl (op_append_nil sl28 rfl rfl rfl rfl rfl rfl (by simp only [List.length_cons, List.length_nil, Nat.reduceAdd]; rfl) rfl rfl (by decide) (by simp) (by first | decide | (simp only [maxLen, List.length_cons, List.length_nil, List.length_append, List.length_map]; omega) | omega) rfl rfl rfl ?_)
            refine A1 6 rfl (fdb ti45 ⟨_, rfl, ?_⟩); refine A2 7 rfl (sto ti28 ?_); refine a_end ?_; refine seq_normal ?_; refine runs_seq ?_; refine kp [3, 2, 0] ?_; refine sr ?_; refine o1 (fdb ti45 ?_); refine o1 (ldb ti3 ?_); refine o1 (ine ?_)
            refine nx ?_; refine cdf (fun h18 => ?_) (fun h18 => ?_)
            · simp only [nrm, Int.reduceEq, Int.reduceNe, Int.reduceLT, Int.reduceLE] at h18
            (try simp only [nrm, Int.reduceEq, Int.reduceNe, Int.reduceLT, Int.reduceLE] at h18)
            have ih3 := ih2 (by omega)
            rcases hlb : levelR n s ⟨pa, none⟩ with ⟨lb, pb, fb⟩
            rw [hlb] at ih3 hle2
            obtain ⟨kb, nb, ab⟩ := lb
            simp only at hle2
            refine a_start ?_ (hm := by exact mixed); refine A1 0 rfl (fdb ti45 ⟨_, rfl, ?_⟩); refine A1 1 rfl (ldb ti28 ⟨_, rfl, ?_⟩); refine A1 2 rfl (mv ⟨_, rfl, ?_⟩)
            refine A2 3 rfl (op_callo ca106 rfl rfl rfl rfl (ih3) [0] (boc .nil) rfl rfl rfl rfl (fir .nil) (fun s ob' hq => ?_) (fun s ob' hq => ?_))
            rotate_left
            · obtain ⟨a, hfa, rfl, rfl⟩ := hq.pan
              refine ⟨_, _, _, _, _, rfl, rfl, rfl, rfl, rfl, ?_⟩; refine leave_d ([0]) ([.dead]) rfl rfl rfl (by repeat (first | exact boz | refine bod ?_)) ?_
              simp only at hfa; subst hfa; exact LvQ.bad takeR_some ⟨rfl, rfl⟩
            obtain ⟨hfb, rfl, rfl⟩ := hq.ret; simp only at hfb; subst hfb; refine ⟨_, _, _, _, _, rfl, rfl, rfl, rfl, rfl, ?_⟩
            refine A2 (T := fun _ => False) 4 rfl (op_lit sl28 [.tmp 47] ti45 rfl rfl rfl rfl rfl rfl rfl (by decide) (by decide) (by decide) (by simp only [List.length_cons, List.length_nil, Nat.reduceAdd]; rfl) rfl ?_)
            refine A2 5 rfl (op_append sl28 rfl rfl rfl rfl rfl rfl rfl (.inl rfl) (by decide) (by simp) (by first | decide | (simp only [maxLen, List.length_cons, List.length_nil, List.length_append, List.length_map]; omega) | omega) rfl rfl rfl ?_)
            refine A1 6 rfl (fdb ti45 ⟨_, rfl, ?_⟩); refine A2 7 rfl (sto ti28 ?_); refine a_end ?_; refine seq_normal ?_; refine kp [3, 2, 0] ?_; refine sr ?_; refine o1 (mv ?_)
            refine oc (op_callo ca105 rfl rfl rfl rfl (stake_spec s hs (stepAt s pb) (stepAt_le hle2.2).2 (stepTok s pb) ⟨#[41]⟩ (tokR s pb).2.1) [0] (boc .nil) rfl rfl rfl rfl (fir (fir .nil)) (fun s ob' hq => ?_) (fun s ob' hq => ?_))
            rotate_left
            · rcases hq with ⟨_, hq1, _⟩ | ⟨htk, hq1, rfl⟩
              · cases hq1
              cases hq1; refine ⟨_, _, _, _, _, rfl, rfl, rfl, rfl, rfl, ?_⟩; refine leave_d ([0]) ([.dead]) rfl rfl rfl (by repeat (first | exact boz | refine bod ?_)) ?_
              exact LvQ.bad (takeR_no fun e => htk ((step_is (by decide) (by decide)).2 e)) ⟨rfl, rfl⟩
            rcases hq with ⟨htk, hq1, rfl⟩ | ⟨_, hq1, _⟩
            rotate_left
            · cases hq1
            cases hq1; refine ⟨_, _, _, _, _, rfl, rfl, rfl, rfl, rfl, ?_⟩; refine nx ?_; refine sr ?_; refine o1 (ldb ti45 ?_); refine oc (sto ti45 ?_); refine nx ?_; refine runs_ret ?_; refine inb_ret ?_; refine seq_ret ?_; refine fin_ret ?_
            refine fin_odl ⟨_, _, rfl, (from_cell rfl rfl ti45 rfl rfl rfl rfl), rfl⟩ rfl ((Lvl.mk 3 .empty [.mk ka na aa, .mk kb nb ab]).d) (by exact .refl _) ([0]) ([scA s (stepAt s pb)]) rfl rfl rfl ?_ ?_
            · repeat (first | exact boz | refine boc ?_)
            · rw [takeR_yes (by decide) ((step_is (by decide) (by decide)).1 htk)]
              exact LvQ.ok rfl ⟨rfl, rfl⟩
      · have c2' : ¬ stepTok s p = ⟨#[40]⟩ := fun e => c2 ((step_is (by decide) (by decide)).1 e)
        rw [levelR_else c0 c1 c2]
        rw [← step_isName] at c1
        unfold scA scO
        refine triS_of_runs Tryz.func106 rfl Tryz.ntmps106 (rs := [.cell 2 45]) rfl rfl rfl 1 rfl ?_
        refine sr ?_; refine oc (T := fun _ => False) (alc ti45 ?_ (hl := by simp only [List.length_cons, List.length_nil, Nat.reduceAdd]; rfl)); refine nx ?_; refine runs_seq ?_; refine sr ?_; refine o1 (mv ?_); refine o1 (ncb ?_)
        refine o1 (fdb ti105 ?_); refine o1 (ldb ti9 ?_); refine nx ?_; refine runs_block ?_; refine sr ?_; refine o1 (seq1 ?_); refine o1 (asg ?_); refine nx ?_; refine cd (fun h2 => ?_) (fun h2 => ?_)
        · (try simp only [nrm, Int.reduceEq, Int.reduceNe, Int.reduceLT, Int.reduceLE] at h2); contradiction
        (try simp only [nrm, Int.reduceEq, Int.reduceNe, Int.reduceLT, Int.reduceLE] at h2); refine kp [7, 2, 0] ?_; refine sr ?_; refine o1 (seq1 ?_); refine o1 (asg ?_); refine nx ?_; refine cd (fun h5 => ?_) (fun h5 => ?_)
        · (try simp only [nrm, Int.reduceEq, Int.reduceNe, Int.reduceLT, Int.reduceLE] at h5); contradiction
        (try simp only [nrm, Int.reduceEq, Int.reduceNe, Int.reduceLT, Int.reduceLE] at h5); refine runs_skip ?_; refine inb_normal ?_; refine seq_normal ?_; refine sr ?_; refine o1 (mv ?_)
        refine oc (op_callo ca107 rfl rfl rfl rfl (name_bad s (stepAt s p) (stepTok s p) (tokR s p).2.1 c1) [0] (boc .nil) rfl rfl rfl rfl (fir .nil) (fun s ob' hq => ?_) (fun s ob' hq => ?_))
        · cases hq.1
        obtain ⟨hq1, rfl⟩ := hq; cases hq1; refine ⟨_, _, _, _, _, rfl, rfl, rfl, rfl, rfl, ?_⟩; refine leave_d ([0]) ([.dead]) rfl rfl rfl (by repeat (first | exact boz | refine bod ?_)) ?_; exact LvQ.bad (a := (tokR s p).2.1) rfl ⟨rfl, rfl⟩
end Go.Proofs.YtneaancanfpdhaaGreatDoor
namespace Go.Proofs.YtneaancanfpdhaaGreatDoor
open Go Go.Vd Go.RowKit
attribute [local irreducible] Runs OpsR OpR FloatR AnyR AnyO
variable {gl : Nat → List D}

theorem catch_ret (E : D) : TriDf Tryz.prog gl 71 [.cells [.d E] 54] [.blk 0 0] .ret (fun U' ob' => U' = .ret ∧ ob' = [.cells [.d E] 54]) := by
  refine triDf_recover (Q0 := fun out ob' => out = .ret (.d (.tup [])) ∧ ob' = [.cells [.d E] 54]) (U' := .ret) Tryz.func71 rfl Tryz.ntmps71 (rs := []) rfl rfl rfl 1 rfl (fun _ _ => rfl) rfl rfl rfl (.inl ⟨rfl, rfl, rfl⟩) ?_ ?_
  · rintro out ob' ⟨rfl, rfl⟩; exact ⟨⟨_, rfl⟩, rfl, rfl⟩
  refine runs_block ?_; refine sr ?_; refine o1 (f_ieql_nil ii20 ?_); refine nx ?_; refine cdf (fun h3 => ?_) (fun h3 => ?_)
  · simp only [nrm, Int.reduceEq, Int.reduceNe, Int.reduceLT, Int.reduceLE] at h3
  (try simp only [nrm, Int.reduceEq, Int.reduceNe, Int.reduceLT, Int.reduceLE] at h3); refine runs_region ?_; refine o1 (asg ?_); refine ops_nil ?_; refine inb_normal ?_; refine fin_normal ?_
  refine fin_od (l := []) rfl rfl ([0]) ([.cells [.d E] 54]) rfl rfl rfl ?_ ?_
  · repeat (first | exact boz | refine boc ?_)
  · exact ⟨rfl, rfl⟩
theorem catch_pan (E : D) (c a : Int) : TriDf Tryz.prog gl 71 [.cells [.d E] 54] [.blk 0 0] (.pan (fltD c a) false) (fun U' ob' => U' = .pan (fltD c a) true ∧ ob' = [.cells [.d (fltD c a)] 54]) := by
  refine triDf_recover (Q0 := fun out ob' => out = .ret (.d (.tup [])) ∧ ob' = [.cells [.d (fltD c a)] 54]) (U' := .pan (fltD c a) true) Tryz.func71 rfl Tryz.ntmps71 (rs := []) rfl rfl rfl 1 rfl (fun _ _ => rfl) rfl rfl rfl (.inr ⟨_, rfl, rfl, rfl⟩) ?_ ?_
  · rintro out ob' ⟨rfl, rfl⟩; exact ⟨⟨_, rfl⟩, rfl, rfl⟩
  unfold fltD
  refine runs_block ?_; refine sr ?_; refine o1 (f_ieql_d ii20 ?_); refine nx ?_; refine cd (fun h3 => ?_) (fun h3 => ?_)
  · simp only [nrm, Int.reduceEq, Int.reduceNe, Int.reduceLT, Int.reduceLE] at h3
  (try simp only [nrm, Int.reduceEq, Int.reduceNe, Int.reduceLT, Int.reduceLE] at h3); refine sr ?_; refine o1 (f_tassert_yes ?_); refine o1 (ex2 ?_); refine o1 (ex2 ?_); refine nx ?_; refine cdf (fun h5 => ?_) (fun h5 => ?_)
  · simp only [nrm, Int.reduceEq, Int.reduceNe, Int.reduceLT, Int.reduceLE] at h5
  (try simp only [nrm, Int.reduceEq, Int.reduceNe, Int.reduceLT, Int.reduceLE] at h5); refine kp [10, 0] ?_; refine sr ?_; refine o1 (asg ?_); refine nx ?_; refine runs_region ?_; refine o1 (mv ?_); refine o1 (mv ?_); refine o1 (f_iface_d ?_)
  refine o1 (ncb ?_); refine oc (sto ti54 ?_); refine ops_nil ?_; refine inb_normal ?_; refine fin_normal ?_; refine fin_od (l := []) rfl rfl ([0]) ([.cells [.d (fltD c a)] 54]) rfl rfl rfl ?_ ?_
  · repeat (first | exact boz | refine boc ?_)
  · exact ⟨rfl, rfl⟩

/-- an error, by its code and place -/
def errD (c a : Int) : D := if c = 0 then .v .nilIface else fltD c a
theorem errD_zero (a : Int) : errD 0 a = .v .nilIface := rfl
theorem errD_ne {c : Int} (h : ¬ c = 0) (a : Int) : errD c a = fltD c a := if_neg h
theorem doneR_some {s : ByteArray} {p a : Nat} : (doneR s ⟨p, some a⟩).f = some a := by
  unfold doneR; dsimp only; split <;> rfl
theorem doneR_no {s : ByteArray} {p : Nat} (h : ¬ stepTok s p = .empty) : (doneR s ⟨p, none⟩).f = some (tokR s p).2.1 := by
  unfold doneR; dsimp only
  rw [if_pos]; rfl
  cases h2 : (tokR s p).2.2 with
  | false => exact .inl rfl
  | true =>
    right; intro e; apply h; unfold stepTok; rw [if_pos h2, e]
theorem doneR_yes {s : ByteArray} {p : Nat} (h : stepTok s p = .empty) : (doneR s ⟨p, none⟩).f = none := by
  unfold doneR; dsimp only
  unfold stepTok at h
  split at h
  · rename_i h2
    rw [if_neg]; rintro (h3 | h3)
    · rw [h2] at h3; cases h3
    · exact h3 h
  · exact absurd h (by decide)
theorem send_spec (s : ByteArray) (b : Nat) (tok : ByteArray) (pos : Nat) :
    Tri Tryz.prog gl 74 [scO s b tok pos] [.blk 0 0] fun out ob' => (tok = .empty ∧ out = .ret (.d (.tup [])) ∧ ob' = [scO s b tok pos]) ∨ (¬ tok = .empty ∧ out = .pan (.d (fltD 1 pos)) ∧ ob' = [scO s b tok pos]) := by
  by_cases h : tok = .empty
  · subst h; exact (end_ok s b pos).mono fun o b hq => .inl ⟨rfl, hq⟩
  · exact (end_bad s b tok pos h).mono fun o b hq => .inr ⟨h, hq⟩

end Go.Proofs.YtneaancanfpdhaaGreatDoor
namespace Go.Proofs.YtneaancanfpdhaaGreatDoor
open Go Go.Vd Go.RowKit
attribute [local irreducible] Runs OpsR OpR FloatR AnyR AnyO
variable {g gl : Nat → List D}

/-- does the token begin with #? -/
def hashB (t : ByteArray) : Bool := decide (t ≠ .empty) && decide (byteAt t 0 = 35)
theorem hash_pre (t : ByteArray) : (1 ≤ t.size ∧ t.extract 0 1 = ⟨#[35]⟩) ↔ hashB t = true := by
  unfold hashB
  simp only [Bool.and_eq_true, decide_eq_true_eq]
  constructor
  · rintro ⟨h1, h2⟩
    refine ⟨fun e => by subst e; simp at h1, ?_⟩
    have h3 : byteAt (t.extract 0 1) 0 = byteAt t 0 := by rw [byteAt_extract t (by omega) h1]
    rw [← h3, h2]; rfl
  · rintro ⟨h1, h2⟩
    have h3 := size_pos h1
    refine ⟨h3, byteAt_inj (by rw [ByteArray.size_extract]; have : (ByteArray.mk #[35]).size = 1 := rfl; omega) fun i hi => ?_⟩
    rw [ByteArray.size_extract] at hi
    obtain rfl : i = 0 := by omega
    rw [byteAt_extract t (by omega) h3, Nat.zero_add, h2]; rfl

theorem hash_pre2 (t : ByteArray) : (decide (((ByteArray.mk #[35]).size : Int) ≤ (t.size : Int)) && decide (t.extract 0 (((ByteArray.mk #[35]).size : Nat) : Int).toNat = ⟨#[35]⟩)) = hashB t := by
  rw [Bool.eq_iff_iff, ← hash_pre, Bool.and_eq_true, decide_eq_true_eq, decide_eq_true_eq]
  show ((1 : Int) ≤ t.size ∧ t.extract 0 1 = _) ↔ _
  exact ⟨fun h => ⟨by omega, h.2⟩, fun h => ⟨by omega, h.2⟩⟩
theorem hasPrefix_spec (t : ByteArray) : TriD Tryz.prog gl 136 [.v (.string t), .v (.string ⟨#[35]⟩)] (· = .v (.bool (hashB t))) := by
  have h1s : (ByteArray.mk #[35]).size = 1 := rfl
  refine triD_of_runs Tryz.func136 rfl Tryz.ntmps136 (rs := [.tmp 4]) rfl rfl rfl ?_
  refine sr ?_; refine o1 (asg ?_); refine nx ?_; refine sr ?_; refine o1 (mv ?_); refine o1 (le3 ut9 ?_); refine o1 (mv ?_); refine o1 (le3 ut9 ?_); refine o1 (ige ?_); refine o1 (mv ?_)
  apply ops_and (yt := 16) (d := 10) 6 rfl rfl rfl (.none rfl) rfl rfl
  case h1 =>
    intro hb11 hK
    have hc := hb11; (try simp only [nrm, Int.reduceEq, Int.reduceNe, Int.reduceLT, Int.reduceLE] at hc)
    refine gye ?_ (hbw := by exact hb11); refine o1 (mv ?_); refine gye ?_ (hbw := by exact hb11); refine o1 (mv ?_); refine gye ?_ (hbw := by exact hb11); refine o1 (le3 ut9 ?_); refine gye ?_ (hbw := by exact hb11)
    refine o1 (fl_sub_h ut9 rfl rfl rfl (by omega) ?_); refine gye ?_ (hbw := by exact hb11); refine o1 (mv ?_); refine gye ?_ (hbw := by exact hb11); refine o1 (seq1 ?_); exact hK [_, _, _, _, _, _] rfl rfl
  case h2 =>
    intro hb11 hK; refine gno ?_ (hbw := by exact hb11); refine gno ?_ (hbw := by exact hb11); refine gno ?_ (hbw := by exact hb11); refine gno ?_ (hbw := by exact hb11); refine gno ?_ (hbw := by exact hb11); refine gno ?_ (hbw := by exact hb11)
    exact hK [_, _, _, _, _, _] rfl
  refine o1 (asg ?_); refine nx ?_; refine runs_ret ?_; refine fin_ret ?_; refine fin_d1 rfl rfl ?_
  rw [hash_pre2]
theorem cutLite_spec (t : ByteArray) : TriD Tryz.prog gl 123 [.v (.string t), .v (.string ⟨#[35]⟩)] (· = .tup [.v (.string (if hashB t then t.extract 1 t.size else t)), .v (.bool (hashB t))]) := by
  have h1s : (ByteArray.mk #[35]).size = 1 := rfl
  have hp := hash_pre t
  refine triD_of_runs Tryz.func123 rfl Tryz.ntmps123 (rs := [.tmp 4, .tmp 5]) rfl rfl rfl ?_
  refine sr ?_; refine o1 (asg ?_); refine o1 (asg ?_); refine nx ?_; refine runs_seq ?_; refine sr ?_; refine o1 (mv ?_); refine o1 (mv ?_); refine oc (cv ca136 rfl rfl (hasPrefix_spec t) (fir (fir .nil)) ?_); refine o1 (f_not ?_)
  refine nx ?_; refine cd (fun h1 => ?_) (fun h1 => ?_)
  · (try simp only [nrm, Int.reduceEq, Int.reduceNe, Int.reduceLT, Int.reduceLE] at h1)
    refine kp [0] ?_; refine sr ?_; refine o1 (mv ?_); refine o1 (asg ?_); refine o1 (asg ?_); refine nx ?_; refine runs_ret ?_; refine seq_ret ?_; refine fin_ret ?_; refine fin_d2 rfl rfl rfl ?_
    rw [h1]; rfl
  (try simp only [nrm, Int.reduceEq, Int.reduceNe, Int.reduceLT, Int.reduceLE] at h1); refine runs_skip ?_; refine seq_normal ?_; refine runs_seq ?_; refine kp [0, 1] ?_
  have hp1 := (hp.2 h1).1
  refine runs_region ?_; refine o1 (mv ?_); refine o1 (mv ?_); refine o1 (le3 ut9 ?_); refine o1 (fl_sub_l ut9 rfl rfl rfl (by omega) ?_); refine o1 (asg ?_); refine o1 (asg ?_); refine nx ?_; refine runs_ret ?_; refine fin_ret ?_
  refine fin_d2 rfl rfl rfl ?_
  rw [h1]; rfl
theorem cut_spec (t : ByteArray) : TriD Tryz.prog gl 102 [.v (.string t), .v (.string ⟨#[35]⟩)] (· = .tup [.v (.string (if hashB t then t.extract 1 t.size else t)), .v (.bool (hashB t))]) := by
  refine triD_of_runs Tryz.func102 rfl Tryz.ntmps102 (rs := [.tmp 4, .tmp 5]) rfl rfl rfl ?_
  refine sr ?_; refine o1 (asg ?_); refine o1 (asg ?_); refine nx ?_; refine sr ?_; refine o1 (mv ?_); refine o1 (mv ?_); refine oc (cv ca123 rfl rfl (cutLite_spec t) (fir (fir .nil)) ?_); refine o1 (ex2 ?_); refine o1 (ex2 ?_)
  refine o1 (asg ?_); refine o1 (asg ?_); refine nx ?_; refine runs_ret ?_; refine fin_ret ?_; refine fin_d2 rfl rfl rfl ?_
  rfl

theorem atoiIn_spec (t : ByteArray) (h1 : 1 ≤ t.size) (h5 : t.size ≤ 5) (hd : allDig t) : TriD Tryz.prog gl 124 [.v (.string t)] (· = .tup [.v (.int .i64 (numR t t.size)), .v .nilIface]) := by
  have hd0 := hd 0 (by omega)
  have hbl := bytesD_len t
  refine triD_of_runs Tryz.func124 rfl Tryz.ntmps124 (rs := [.tmp 2, .tmp 3]) rfl rfl rfl ?_
  refine sr ?_; refine o1 (asg ?_); refine o1 (asg ?_); refine nx ?_; refine sr ?_; refine o1 (mv ?_); refine o1 (le3 ut9 ?_); refine o1 (asg ?_); refine nx ?_; refine runs_seq ?_; refine kp [4, 0] ?_; refine sr ?_; refine o1 (mv ?_)
  refine ops_set 13 false rfl (by simp) ?_; refine gno ?_ (hbw := by exact rfl); refine gno ?_ (hbw := by exact rfl); refine gno ?_ (hbw := by exact rfl); refine gud ?_; refine gud ?_; refine gno ?_ (hbw := by exact rfl)
  refine o1 (f_pick_f ?_); refine o1 (mv ?_); refine ops_set 21 false rfl (by simp) ?_; refine gye ?_ (hbw := by exact rfl); refine o1 (mv ?_); refine ops_set 22 true rfl (by simp) ?_; refine gye ?_ (hbw := by exact rfl); refine o1 (mv ?_)
  refine gye ?_ (hbw := by exact rfl); refine o1 (ilt ?_); refine gye ?_ (hbw := by exact rfl); refine o1 (mv ?_); refine ops_set 25 true rfl (by simp; omega) ?_; refine gye ?_ (hbw := by exact rfl); refine o1 (mv ?_)
  refine gye ?_ (hbw := by exact rfl); refine o1 (ilt ?_); refine gye ?_ (hbw := by exact rfl); refine o1 (f_pick_t ?_); refine gye ?_ (hbw := by exact rfl); refine o1 (f_pick_t ?_); refine o1 (f_pick_f ?_); refine nx ?_
  refine cdf (fun h2 => ?_) (fun h2 => ?_)
  · (try simp only [nrm, Int.reduceEq, Int.reduceNe, Int.reduceLT, Int.reduceLE] at h2); omega
  (try simp only [nrm, Int.reduceEq, Int.reduceNe, Int.reduceLT, Int.reduceLE] at h2); refine kp [0] ?_; refine sr ?_; refine o1 (mv ?_); refine o1 (asg ?_); refine nx ?_; refine runs_seq ?_; refine sr ?_; refine o1 (mv ?_)
  refine o1 (byt ut9 ?_); refine o1 (ieq ?_); refine o1 (mv ?_)
  apply ops_or (yt := 38) (d := 35) 3 rfl rfl rfl (.none rfl) rfl rfl
  case h1 =>
    intro hb6 hK
    have hc := hb6; (try simp only [nrm, Int.reduceEq, Int.reduceNe, Int.reduceLT, Int.reduceLE] at hc)
    refine gye ?_ (hbw := by exact hb6); refine o1 (mv ?_); refine gye ?_ (hbw := by exact hb6); refine o1 (byt ut9 ?_); refine gye ?_ (hbw := by exact hb6); refine o1 (ieq ?_); exact hK [_, _, _] rfl rfl
  case h2 =>
    intro hb6 hK; refine gno ?_ (hbw := by exact hb6); refine gno ?_ (hbw := by exact hb6); refine gno ?_ (hbw := by exact hb6); exact hK [_, _, _] rfl
  refine nx ?_; refine cd (fun h4 => ?_) (fun h4 => ?_)
  · (try simp only [nrm, Int.reduceEq, Int.reduceNe, Int.reduceLT, Int.reduceLE] at h4); exfalso; have h0 : byteAt t (Int.toNat 0) = byteAt t 0 := rfl; rcases h4 with h | h <;> omega
  (try simp only [nrm, Int.reduceEq, Int.reduceNe, Int.reduceLT, Int.reduceLE] at h4); refine runs_skip ?_; refine seq_normal ?_; refine kp [5, 0] ?_; refine sr ?_; refine o1 (asg ?_); refine nx ?_; refine runs_seq ?_; refine sr ?_
  refine o1 (mv ?_); refine oc (T := fun _ => False) (op_bytes ut9 sl89 ui5 rfl rfl rfl rfl rfl ?_); refine o1 (le1 us89 ?_); refine o1 (mv ?_); refine nx ?_; refine runs_block ?_; refine kp [49, 48, 47, 6, 5] ?_
  apply runs_loop_c (ι := Nat) (fun i => [(49, int i), (6, int (numR t i))]) [48, 47, 5] (fun i => i ≤ t.size) (fun i => t.size - i) (0)
  case hk => exact rfl
  case hI =>
    exact Nat.zero_le _
  case hm =>
    refine mo ?_ (sly (sly (sly (sly (sly slz)))))
    repeat (first | exact boz | refine bod ?_)
  case h =>
    rintro i hinv
    try dsimp only at hinv
    refine kp [49, 6, 48, 47, 5] ?_; refine sr ?_; refine o1 (ilt ?_); refine nx ?_; refine runs_seq ?_; refine cdf (fun h10 => ?_) (fun h10 => ?_)
    · (try simp only [nrm, Int.reduceEq, Int.reduceNe, Int.reduceLT, Int.reduceLE] at h10)
      refine runs_exit ?_; refine seq_exit ?_; refine seq_exit ?_; refine inb_exit ?_; refine seq_normal ?_; refine runs_seq ?_; refine kp [6, 5] ?_; refine sr ?_; refine o1 (mv ?_); refine o1 (byt ut9 ?_); refine o1 (ieq ?_); refine nx ?_
      refine cd (fun h17 => ?_) (fun h17 => ?_)
      · (try simp only [nrm, Int.reduceEq, Int.reduceNe, Int.reduceLT, Int.reduceLE] at h17); omega
      (try simp only [nrm, Int.reduceEq, Int.reduceNe, Int.reduceLT, Int.reduceLE] at h17); refine runs_skip ?_; refine seq_normal ?_; refine kp [6] ?_; refine sr ?_; refine o1 (mv ?_); refine o1 (asg ?_); refine o1 (asg ?_); refine nx ?_
      refine runs_ret ?_; refine seq_ret ?_; refine fin_ret ?_; refine fin_d2 rfl rfl rfl ?_
      have hi : i = t.size := by omega
      subst hi
      rfl
    (try simp only [nrm, Int.reduceEq, Int.reduceNe, Int.reduceLT, Int.reduceLE] at h10); refine runs_skip ?_; refine seq_normal ?_; refine runs_seq ?_; refine runs_block ?_; refine runs_seq ?_
    have hdi := hd i (by omega)
    have hnb := numR_bound hd i (by omega) (by omega)
    have hs8 := sub8_digit hdi
    have hw : IntKind.wrap .i64 (sub8 (byteAt t i) 48) = byteAt t i - 48 := by rw [sub8_digit hdi]; exact wrap_digit (by omega)
    refine runs_region ?_; refine o1 (ixs us89 te89 ?_ (he := by exact (byte_at (show i < t.size by omega)))); refine o1 (ldc ti5 ?_); refine o1 (asg ?_); refine nx ?_; refine sr ?_; refine o1 (mv ?_); refine o1 (fl_sub8 rfl rfl rfl ?_)
    refine o1 (asg ?_); refine nx ?_; refine runs_seq ?_; refine kp [8, 49, 6, 48, 47, 5] ?_; refine sr ?_; refine o1 (mv ?_); refine o1 (igt ?_); refine nx ?_; refine cd (fun h13 => ?_) (fun h13 => ?_)
    · (try simp only [nrm, Int.reduceEq, Int.reduceNe, Int.reduceLT, Int.reduceLE] at h13); omega
    (try simp only [nrm, Int.reduceEq, Int.reduceNe, Int.reduceLT, Int.reduceLE] at h13); refine runs_skip ?_; refine seq_normal ?_; refine runs_region ?_; refine o1 (mv ?_); refine o1 (fl_mul rfl rfl rfl (by omega) ?_); refine o1 (mv ?_)
    refine o1 (fl_conv ui3 uo5 rfl rfl ?_); refine o1 (iad ?_); refine o1 (asg ?_); refine ops_nil ?_; refine inb_normal ?_; refine seq_normal ?_; refine kp [6, 49, 48, 47, 5] ?_; refine runs_region ?_; refine o1 (iad ?_); refine o1 (mv ?_)
    refine ops_nil ?_; refine seq_back ?_; refine back_i (i + 1) rfl ?_ ?_
    · exact ⟨by omega, by omega⟩
    · refine mo ?_ (sly (slx rfl (by exact Fit.of_eq (by rw [hw]; simp only [numR]; rw [Int.mul_comm]; rfl)) (sly (sly (sly slz)))))
      repeat (first | exact boz | refine bod ?_)
theorem atoi_spec (t : ByteArray) (h1 : 1 ≤ t.size) (h5 : t.size ≤ 5) (hd : allDig t) : TriD Tryz.prog gl 103 [.v (.string t)] (· = .tup [.v (.int .i64 (numR t t.size)), .v .nilIface]) := by
  refine triD_of_runs Tryz.func103 rfl Tryz.ntmps103 (rs := [.tmp 2, .tmp 3]) rfl rfl rfl ?_
  refine sr ?_; refine o1 (asg ?_); refine o1 (asg ?_); refine nx ?_; refine sr ?_; refine o1 (mv ?_); refine oc (cv ca124 rfl rfl (atoiIn_spec t h1 h5 hd) (fir .nil) ?_); refine o1 (mv ?_); refine o1 (ex2 ?_); refine o1 (ex2 ?_)
  refine o1 (asg ?_); refine o1 (asg ?_); refine nx ?_; refine runs_seq ?_; refine kp [5, 4, 0] ?_; refine sr ?_; refine o1 (mv ?_); refine o1 (f_ineq_nil ii54 ?_); refine nx ?_; refine cd (fun h2 => ?_) (fun h2 => ?_)
  · simp only [nrm, Int.reduceEq, Int.reduceNe, Int.reduceLT, Int.reduceLE] at h2
  (try simp only [nrm, Int.reduceEq, Int.reduceNe, Int.reduceLT, Int.reduceLE] at h2); refine runs_skip ?_; refine seq_normal ?_; refine kp [4] ?_; refine sr ?_; refine o1 (mv ?_); refine o1 (asg ?_); refine o1 (asg ?_); refine nx ?_
  refine runs_ret ?_; refine fin_ret ?_; refine fin_d2 rfl rfl rfl ?_
  rfl
end Go.Proofs.YtneaancanfpdhaaGreatDoor
namespace Go.Proofs.YtneaancanfpdhaaGreatDoor
open Go Go.Vd Go.RowKit
attribute [local irreducible] Runs OpsR OpR FloatR AnyR
variable {gl : Nat → List D}

/-- the place of a text, or -1 -/
def idxI (ps : List ByteArray) (s : ByteArray) : Int := match ps.findIdx? (· = s) with
  | some i => i
  | none => -1
theorem idxI_some {ps : List ByteArray} {s : ByteArray} {i : Nat} (h : i < ps.length) (h1 : s ∉ ps.take i) (h2 : ps[i] = s) : idxI ps s = i := by
  unfold idxI; rw [findIdx_some h h1 h2]
theorem idxI_none {ps : List ByteArray} {s : ByteArray} (h : s ∉ ps) : idxI ps s = -1 := by
  unfold idxI; rw [findIdx_none h]
theorem idxI_case (ps : List ByteArray) (s : ByteArray) : (s ∉ ps ∧ idxI ps s = -1) ∨ ∃ i, ∃ h : i < ps.length, s ∉ ps.take i ∧ ps[i] = s ∧ idxI ps s = i := by
  by_cases hm : s ∈ ps
  · right
    have h0 : (ps.findIdx? (· = s)).isSome = true := by rw [List.findIdx?_isSome]; simpa using hm
    obtain ⟨i, hi⟩ := Option.isSome_iff_exists.1 h0
    obtain ⟨h1, h2, h3⟩ := List.findIdx?_eq_some_iff_getElem.1 hi
    refine ⟨i, h1, fun hc => ?_, by simpa using h2, by unfold idxI; rw [hi]⟩
    obtain ⟨j, hj, e⟩ := List.mem_iff_getElem.1 hc
    simp only [List.length_take] at hj
    have := h3 j (by omega)
    simp only [List.getElem_take] at e
    simp [e] at this
  · exact .inl ⟨hm, idxI_none hm⟩

theorem index_spec (ps : List ByteArray) (s : ByteArray) (hl : ps.length ≤ 281474976710656) :
    TriD Tryz.prog gl 98 [strsD ps, .v (.string s)] (· = .v (.int .i64 (idxI ps s))) := by
  have hlp := strs_len ps
  refine triD_of_runs Tryz.func98 rfl Tryz.ntmps98 (rs := [.tmp 4]) rfl rfl rfl ?_
  refine sr ?_; refine o1 (asg ?_); refine nx ?_; refine runs_seq ?_; refine sr ?_; refine o1 (mv ?_); refine o1 (le1 us42 ?_); refine o1 (mv ?_); refine nx ?_; refine runs_block ?_; refine kp [8, 7, 0, 1] ?_
  apply runs_loop_c (ι := Nat) (fun i => [(8, int i)]) [7, 0, 1] (fun i => i ≤ ps.length ∧ s ∉ ps.take i) (fun i => ps.length - i) (0)
  case hk => exact rfl
  case hI =>
    exact ⟨Nat.zero_le _, by simp⟩
  case hm =>
    refine mo ?_ (sly (sly (sly (sly slz)))); exact boz
  case h =>
    rintro i hinv
    try dsimp only at hinv
    refine kp [8, 7, 0, 1] ?_; refine sr ?_; refine o1 (ilt ?_); refine nx ?_; refine runs_seq ?_; refine cdf (fun h2 => ?_) (fun h2 => ?_)
    · (try simp only [nrm, Int.reduceEq, Int.reduceNe, Int.reduceLT, Int.reduceLE] at h2)
      refine runs_exit ?_; refine seq_exit ?_; refine seq_exit ?_; refine inb_exit ?_; refine seq_normal ?_; refine kp [] ?_; refine sr ?_; refine o1 (asg ?_); refine nx ?_; refine runs_ret ?_; refine fin_ret ?_; refine fin_d1 rfl rfl ?_
      have h := hinv.2
      rw [List.take_of_length_le (by omega)] at h
      rw [idxI_none h]
    (try simp only [nrm, Int.reduceEq, Int.reduceNe, Int.reduceLT, Int.reduceLE] at h2); refine runs_skip ?_; refine seq_normal ?_; refine runs_seq ?_; refine runs_block ?_; refine sr ?_; refine o1 (mv ?_); refine o1 (asg ?_); refine nx ?_
    refine sr ?_; refine o1 (mv ?_); refine o1 (mv ?_); refine o1 (mv ?_); refine o1 (ixs us42 te42 ?_ (he := by exact (str_at (by omega)))); refine o1 (ldc ti9 ?_); refine o1 (seq1 ?_); refine nx ?_; refine cd (fun h4 => ?_) (fun h4 => ?_)
    · (try simp only [nrm, Int.reduceEq, Int.reduceNe, Int.reduceLT, Int.reduceLE] at h4)
      refine kp [5] ?_; refine sr ?_; refine o1 (mv ?_); refine o1 (asg ?_); refine nx ?_; refine runs_ret ?_; refine inb_ret ?_; refine seq_ret ?_; refine seq_ret ?_; refine inb_ret ?_; refine seq_ret ?_; refine fin_ret ?_
      refine fin_d1 rfl rfl ?_
      rw [idxI_some (show i < ps.length by omega) hinv.2 h4.symm]
    (try simp only [nrm, Int.reduceEq, Int.reduceNe, Int.reduceLT, Int.reduceLE] at h4); refine runs_skip ?_; refine inb_normal ?_; refine seq_normal ?_; refine kp [8, 7, 0, 1] ?_; refine runs_region ?_; refine o1 (iad ?_); refine o1 (mv ?_)
    refine ops_nil ?_; refine seq_back ?_; refine back_i (i + 1) rfl ?_ ?_
    · exact ⟨⟨by omega, not_mem_take_succ (by omega) hinv.2 (fun e => h4 e.symm)⟩, by omega⟩
    · refine mo ?_ (sly (sly (sly (sly slz))))
      exact boz

end Go.Proofs.YtneaancanfpdhaaGreatDoor
namespace Go.Proofs.YtneaancanfpdhaaGreatDoor
open Go Go.Vd Go.RowKit
attribute [local irreducible] Runs OpsR OpR FloatR AnyR AnyO
variable {g gl : Nat → List D}

theorem idx_kind (w : ByteArray) : idxI (wordsT.drop 1) w + 1 = kindT w := by
  have hl : wordsT.length = 7 := rfl
  rcases idxI_case (wordsT.drop 1) w with ⟨h1, h2⟩ | ⟨i, h0, _, h2, h3⟩
  · rw [h2]
    have h4 := kindT_le w
    rcases Nat.eq_zero_or_pos (kindT w) with h5 | h5
    · rw [h5]; rfl
    · exfalso
      have h6 := (kindT_word (w := w) (i := kindT w) h5 (by omega)).2 rfl
      apply h1
      rw [← h6]
      have h7 : 1 + (kindT w - 1) = kindT w := by omega
      exact List.mem_iff_getElem.2 ⟨kindT w - 1, by rw [List.length_drop]; omega, by simp only [List.getElem_drop, h7]⟩
  · rw [h3]
    simp only [List.length_drop] at h0
    have h4 : wordsT[i + 1] = w := by simp only [List.getElem_drop, Nat.add_comm 1 i] at h2; exact h2
    rw [(kindT_word (by omega) (by omega)).1 h4]; rfl
theorem kindT_emp : kindT .empty = 0 ∧ kindT ⟨#[0]⟩ = 0 := by decide
theorem step_kind {s : ByteArray} {p : Nat} : kindT (stepTok s p) = kindT (tokR s p).1 := by
  by_cases h : (tokR s p).1 = .empty
  · rw [h, kindT_emp.1]
    rcases step_emp h with h3 | h3 <;> rw [h3]
    · exact kindT_emp.1
    · exact kindT_emp.2
  · rw [(step_tok h).1]
theorem step_hash {s : ByteArray} {p : Nat} : hashB (stepTok s p) = hashB (tokR s p).1 := by
  by_cases h : (tokR s p).1 = .empty
  · rw [h]
    rcases step_emp h with h3 | h3 <;> rw [h3]
    decide
  · rw [(step_tok h).1]

/-- what term.Read does, by what the reference's reader reads -/
def TrQ (s : ByteArray) (r : Trm × RS) (out : Out) (ob' : List Ob) : Prop :=
  (r.2.f = none → out = .ret (.d r.1.d) ∧ ob' = [scA s r.2.p]) ∧ (∀ a, r.2.f = some a → out = .pan (.d (fltD 1 a)) ∧ ob' = [.dead])
theorem TrQ.ok {s : ByteArray} {r : Trm × RS} {out : Out} {ob' : List Ob} (hf : r.2.f = none) (h : out = .ret (.d r.1.d) ∧ ob' = [scA s r.2.p]) : TrQ s r out ob' :=
  ⟨fun _ => h, fun a e => by rw [hf] at e; cases e⟩
theorem TrQ.bad {s : ByteArray} {r : Trm × RS} {out : Out} {ob' : List Ob} {a : Nat} (hf : r.2.f = some a) (h : out = .pan (.d (fltD 1 a)) ∧ ob' = [.dead]) : TrQ s r out ob' :=
  ⟨fun e => (by rw [hf] at e; cases e), fun b e => by rw [hf] at e; cases e; exact h⟩
theorem TrQ.ret {s : ByteArray} {r : Trm × RS} {v : SV} {ob' : List Ob} (h : TrQ s r (.ret v) ob') : r.2.f = none ∧ v = .d r.1.d ∧ ob' = [scA s r.2.p] := by
  cases hf : r.2.f with
  | none =>
    obtain ⟨h1, h2⟩ := h.1 hf
    cases h1
    exact ⟨rfl, rfl, h2⟩
  | some a => obtain ⟨h1, _⟩ := h.2 a hf; cases h1
theorem TrQ.pan {s : ByteArray} {r : Trm × RS} {v : SV} {ob' : List Ob} (h : TrQ s r (.pan v) ob') : ∃ a, r.2.f = some a ∧ v = .d (fltD 1 a) ∧ ob' = [.dead] := by
  cases hf : r.2.f with
  | none => obtain ⟨h1, _⟩ := h.1 hf; cases h1
  | some a =>
    obtain ⟨h1, h2⟩ := h.2 a hf
    cases h1
    exact ⟨a, rfl, rfl, h2⟩

theorem termR_some {s : ByteArray} {p a : Nat} : ∀ n, termR n s ⟨p, some a⟩ = (zeroT, ⟨p, some a⟩)
  | 0 => rfl
  | _ + 1 => rfl
theorem parts_some {s : ByteArray} {n i j a : Nat} {r : RS} (h : (partsR (termR n s) i r).2.f = some a) : (partsR (termR n s) (i + j) r).2.f = some a := by
  induction j with
  | zero => exact h
  | succ j ih =>
    show (termR n s (partsR (termR n s) (i + j) r).2).2.f = some a
    rcases hx : (partsR (termR n s) (i + j) r).2 with ⟨q, f⟩
    rw [hx] at ih
    simp only at ih
    subst ih
    rw [termR_some]
theorem take_some {s w : ByteArray} {r : RS} {a : Nat} (h : r.f = some a) : (takeR s w r).f = some a := by
  obtain ⟨q, f⟩ := r
  simp only at h
  subst h
  exact takeR_some
theorem term_node {s : ByteArray} {p n k : Nat} (h1 : (tokR s p).1 = ⟨#[40]⟩) (hk : kindT (tokR s (stepAt s p)).1 = k) (h3 : ¬ k = 0) :
    termR (n + 1) s ⟨p, none⟩ = (.mk k 0 (headR s k ⟨stepAt s (stepAt s p), none⟩).1 (headR s k ⟨stepAt s (stepAt s p), none⟩).2.1 (partsR (termR n s) (partsOf k) (headR s k ⟨stepAt s (stepAt s p), none⟩).2.2).1, takeR s ⟨#[41]⟩ (partsR (termR n s) (partsOf k) (headR s k ⟨stepAt s (stepAt s p), none⟩).2.2).2) := by
  have e1 := nextR_eq (s := s) (p := p) (by rw [h1]; decide)
  have e2 := nextR_eq (s := s) (p := stepAt s p) (by intro e; rw [e] at hk; exact h3 (by rw [← hk]; exact kindT_emp.1))
  rcases hx : headR s k ⟨stepAt s (stepAt s p), none⟩ with ⟨nm, L, r3⟩
  rw [termR_node (nm := nm) (L := L) (r3 := r3) h1 (by rw [e1]; exact hk) h3 (by rw [e1, e2]; exact hx)]
theorem term_headbad {s : ByteArray} {p n k a : Nat} (h1 : (tokR s p).1 = ⟨#[40]⟩) (hk : kindT (tokR s (stepAt s p)).1 = k) (h3 : ¬ k = 0) (hf : (headR s k ⟨stepAt s (stepAt s p), none⟩).2.2.f = some a) : (termR (n + 1) s ⟨p, none⟩).2.f = some a := by
  rw [term_node h1 hk h3]
  refine take_some ?_
  have := parts_some (s := s) (n := n) (i := 0) (j := partsOf k) (r := (headR s k ⟨stepAt s (stepAt s p), none⟩).2.2) hf
  rwa [Nat.zero_add] at this
theorem term_partbad {s : ByteArray} {p n k a i : Nat} {nm : ByteArray} {L : List Lvl} {r3 : RS} (h1 : (tokR s p).1 = ⟨#[40]⟩) (hk : kindT (tokR s (stepAt s p)).1 = k) (h3 : ¬ k = 0) (h4 : headR s k ⟨stepAt s (stepAt s p), none⟩ = (nm, L, r3)) (hi : i + 1 ≤ partsOf k)
    (hf : (termR n s (partsR (termR n s) i r3).2).2.f = some a) : (termR (n + 1) s ⟨p, none⟩).2.f = some a := by
  rw [term_node h1 hk h3, h4]
  refine take_some ?_
  have := parts_some (s := s) (n := n) (i := i + 1) (j := partsOf k - (i + 1)) (r := r3) hf
  rwa [show i + 1 + (partsOf k - (i + 1)) = partsOf k by omega] at this
theorem term_takebad {s : ByteArray} {p n k q : Nat} {nm : ByteArray} {L : List Lvl} {r3 : RS} (h1 : (tokR s p).1 = ⟨#[40]⟩) (hk : kindT (tokR s (stepAt s p)).1 = k) (h3 : ¬ k = 0) (h4 : headR s k ⟨stepAt s (stepAt s p), none⟩ = (nm, L, r3))
    (h5 : (partsR (termR n s) (partsOf k) r3).2 = ⟨q, none⟩) (h6 : ¬ (tokR s q).1 = ⟨#[41]⟩) : (termR (n + 1) s ⟨p, none⟩).2.f = some (tokR s q).2.1 := by
  rw [term_node h1 hk h3, h4]
  simp only [h5]
  exact takeR_no h6
theorem term_good {s : ByteArray} {p n k q : Nat} {nm : ByteArray} {L : List Lvl} {r3 : RS} (h1 : (tokR s p).1 = ⟨#[40]⟩) (hk : kindT (tokR s (stepAt s p)).1 = k) (h3 : ¬ k = 0) (h4 : headR s k ⟨stepAt s (stepAt s p), none⟩ = (nm, L, r3))
    (h5 : (partsR (termR n s) (partsOf k) r3).2 = ⟨q, none⟩) (h6 : (tokR s q).1 = ⟨#[41]⟩) : termR (n + 1) s ⟨p, none⟩ = (.mk k 0 nm L (partsR (termR n s) (partsOf k) r3).1, ⟨stepAt s q, none⟩) := by
  rw [term_node h1 hk h3, h4]
  simp only [h5]
  rw [takeR_yes (by decide) h6]
theorem peek_step {s : ByteArray} {q : Nat} : peekR s ⟨q, none⟩ = ⟨#[41]⟩ ↔ stepTok s q = ⟨#[41]⟩ := by
  rw [step_is (by decide) (by decide)]
  unfold peekR
  split
  · rename_i h
    constructor
    · intro e; exact absurd e (by decide)
    · intro e
      rcases h with h | h
      · rw [tokR_empty h] at e; exact absurd e (by decide)
      · exact absurd rfl h
  · exact Iff.rfl
theorem name_yes {s : ByteArray} {p : Nat} (h : isNameB (tokR s p).1 = true) : nameR s ⟨p, none⟩ = ((tokR s p).1, ⟨stepAt s p, none⟩) := by
  have hne : (tokR s p).1 ≠ .empty := by
    intro e; rw [e] at h; simp [isNameB] at h
  have h2 : (tokR s p).2.2 = true := by
    cases h3 : (tokR s p).2.2 with
    | true => rfl
    | false => exact absurd (tokR_empty h3) hne
  unfold nameR stepAt; dsimp only
  rw [if_neg (by simp [h, h2]), if_pos h2]
theorem name_no {s : ByteArray} {p : Nat} (h : isNameB (tokR s p).1 = false) : (nameR s ⟨p, none⟩).2.f = some (tokR s p).2.1 := by
  unfold nameR; dsimp only
  rw [if_pos (.inr h)]; rfl
theorem sname_spec (s : ByteArray) (hs : s.size ≤ 1099511627776) (b : Nat) (hb : b ≤ s.size) (w : ByteArray) (pos : Nat) :
    Tri Tryz.prog gl 107 [scO s b w pos] [.blk 0 0] fun out ob' => (isNameB w = true ∧ out = .ret (.d (.v (.string w))) ∧ ob' = [scA s b]) ∨ (isNameB w = false ∧ out = .pan (.d (fltD 1 pos)) ∧ ob' = [scO s b w pos]) := by
  cases h : isNameB w with
  | true => exact (name_ok s hs b hb w pos h).mono fun o b hq => .inl ⟨rfl, hq⟩
  | false => exact (name_bad s b w pos h).mono fun o b hq => .inr ⟨rfl, hq⟩
theorem levels_bad {s : ByteArray} {r0 r' : RS} {m a : Nat} {acc : List Lvl} (h4 : levelsR (s.size + 2) s r0 = (acc ++ (levelsR m s r').1, (levelsR m s r').2)) (hm : 0 < m) (h : r'.f = none ∧ ¬ peekR s r' = ⟨#[41]⟩) (hf : (levelR (s.size + 1) s r').2.f = some a) : (levelsR (s.size + 2) s r0).2.f = some a := by
  rw [h4]
  obtain ⟨m, rfl⟩ : ∃ k, m = k + 1 := ⟨m - 1, by omega⟩
  simp only [levelsR]
  rw [if_pos h]
  simp only
  cases m with
  | zero => exact hf
  | succ m => simp only [levelsR]; rw [if_neg (by rintro ⟨e, _⟩; rw [hf] at e; cases e)]; exact hf

theorem head_one {s : ByteArray} {k : Nat} {r : RS} (h : k = 1) : headR s k r = (.empty, [(levelR (s.size + 1) s r).1], (levelR (s.size + 1) s r).2) := by unfold headR; rw [if_pos h]
theorem head_two {s : ByteArray} {k p : Nat} (h : k = 2) (hn : isNameB (tokR s p).1 = true) : headR s k ⟨p, none⟩ = ((tokR s p).1, (levelsR (s.size + 2) s ⟨stepAt s p, none⟩).1, (levelsR (s.size + 2) s ⟨stepAt s p, none⟩).2) := by
  unfold headR; rw [if_neg (by omega), if_pos h, name_yes hn]
theorem head_no {s : ByteArray} {k p : Nat} (h : k = 2) (hn : isNameB (tokR s p).1 = false) : (headR s k ⟨p, none⟩).2.2.f = some (tokR s p).2.1 := by
  have h1 := name_no hn
  unfold headR; rw [if_neg (by omega), if_pos h]
  show (levelsR (s.size + 1 + 1) s (nameR s ⟨p, none⟩).2).2.f = _
  simp only [levelsR]
  rw [if_neg (by rintro ⟨e, _⟩; rw [h1] at e; cases e)]
  exact h1
theorem head_else {s : ByteArray} {k : Nat} {r : RS} (h : ¬ k = 1) (h2 : ¬ k = 2) : headR s k r = (.empty, [], r) := by unfold headR; rw [if_neg h, if_neg h2]
theorem levels_stepN {s : ByteArray} {r0 : RS} {q qb m : Nat} {acc : List Lvl} {x : Lvl} (hinv : q ≤ s.size ∧ acc.length + m = s.size + 2 ∧ s.size - q < m ∧ levelsR (s.size + 2) s r0 = (acc ++ (levelsR m s ⟨q, none⟩).1, (levelsR m s ⟨q, none⟩).2))
    (h : ¬ peekR s ⟨q, none⟩ = ⟨#[41]⟩) (hX : levelR (s.size + 1) s ⟨q, none⟩ = (x, ⟨qb, none⟩)) :
    qb ≤ s.size ∧ (acc ++ [x]).length + (m - 1) = s.size + 2 ∧ s.size - qb < m - 1 ∧ levelsR (s.size + 2) s r0 = (acc ++ [x] ++ (levelsR (m - 1) s ⟨qb, none⟩).1, (levelsR (m - 1) s ⟨qb, none⟩).2) := by
  have := levels_step (r' := ⟨q, none⟩) (x := x) ⟨hinv.1, hinv.2.1, fun _ => hinv.2.2.1, hinv.2.2.2⟩ ⟨rfl, h⟩ (by rw [hX])
  rw [hX] at this
  exact ⟨this.1, this.2.1, this.2.2.1 rfl, this.2.2.2⟩

theorem sread_spec (s : ByteArray) (hs : s.size ≤ 1099511627776) : ∀ (n p : Nat), p ≤ s.size → s.size < n + p →
    Tri Tryz.prog (glT g) 73 [scA s p] [.blk 0 0] (TrQ s (termR n s ⟨p, none⟩)) := by
  intro n
  induction n with
  | zero => intro p hp hn; omega
  | succ n ih =>
    intro p hp hn
    have hsl := stepAt_le hp
    cases hh : hashB (stepTok s p) with
    | true =>
      rw [step_hash] at hh
      have hh2 := hh
      simp only [hashB, Bool.and_eq_true, decide_eq_true_eq] at hh2
      obtain ⟨ht, ha, hf⟩ := step_tok (s := s) (p := p) hh2.1
      have hash := tok_hash (s := s) hp hh2.1 hh2.2
      have hex : ((tokR s p).1.extract 1 (tokR s p).1.size).size = (tokR s p).1.size - 1 := by rw [ByteArray.size_extract]; omega
      have h2s : 2 ≤ (tokR s p).1.size := tok_hash2 hp hh2.1 hh2.2
      have hne : (tokR s p).1 ≠ ⟨#[40]⟩ := by intro e; rw [e] at hh2; exact absurd hh2.2 (by decide)
      rw [termR_num ⟨hh2.1, .inl hh2.2⟩ hne]
      unfold scA scO
      rw [ht]
      refine triS_of_runs Tryz.func73 rfl Tryz.ntmps73 (rs := [.cell 2 31]) rfl rfl rfl 1 rfl ?_
      refine sr ?_; refine oc (T := fun _ => False) (alc ti31 ?_ (hl := by simp only [List.length_cons, List.length_nil, Nat.reduceAdd]; rfl)); refine nx ?_; refine runs_seq ?_; refine sr ?_; refine o1 (mv ?_); refine o1 (ncb ?_)
      refine o1 (fdb ti105 ?_); refine o1 (ldb ti9 ?_); refine oc (T := fun _ => False) (op_call ca102 rfl rfl rfl rfl (cut_spec (tokR s p).1) (fir (fir .nil)) (fun d hd => ?_)); obtain rfl := hd; rw [hh]; refine o1 (mv ?_); refine o1 (ex2 ?_)
      refine o1 (ex2 ?_); refine o1 (asg ?_); refine o1 (asg ?_); refine nx ?_; refine kp [4, 3, 2, 0] ?_; refine sr ?_; refine o1 (mv ?_); refine nx ?_; refine cdf (fun h2 => ?_) (fun h2 => ?_)
      · simp only [nrm, Int.reduceEq, Int.reduceNe, Int.reduceLT, Int.reduceLE] at h2
      (try simp only [nrm, Int.reduceEq, Int.reduceNe, Int.reduceLT, Int.reduceLE] at h2); refine sr ?_; refine o1 (mv ?_)
      refine oc (cv ca103 rfl rfl (atoi_spec ((tokR s p).1.extract 1 (tokR s p).1.size) (by omega) (by omega) hash.2.2) (fir .nil) ?_); refine o1 (mv ?_); refine o1 (ex2 ?_); refine o1 (ex2 ?_); refine o1 (asg ?_); refine o1 (asg ?_); refine nx ?_
      refine runs_seq ?_; refine kp [6, 5, 2, 0] ?_; refine sr ?_; refine o1 (mv ?_); refine o1 (f_ineq_nil ii54 ?_); refine nx ?_; refine cd (fun h4 => ?_) (fun h4 => ?_)
      · simp only [nrm, Int.reduceEq, Int.reduceNe, Int.reduceLT, Int.reduceLE] at h4
      (try simp only [nrm, Int.reduceEq, Int.reduceNe, Int.reduceLT, Int.reduceLE] at h4); refine runs_skip ?_; refine seq_normal ?_; refine sr ?_; refine o1 (mv ?_)
      refine oc (ck ca101 rfl rfl (step_spec s hs (stepAt s p) hsl.2 (tokR s p).1 (tokR s p).2.1) [0] rfl (boc .nil) (fir .nil) ?_); refine nx ?_; refine kp [5, 2] ?_; refine sr ?_; refine o1 (mv ?_); refine o1 (bld ti31 ?_)
      refine oc (sto ti31 ?_); refine nx ?_; refine runs_ret ?_; refine seq_ret ?_; refine fin_ret ?_
      refine fin_odl ⟨_, _, rfl, (from_cell rfl rfl ti31 rfl rfl rfl rfl), rfl⟩ rfl ((Trm.mk 0 (numR ((tokR s p).1.extract 1 (tokR s p).1.size) ((tokR s p).1.extract 1 (tokR s p).1.size).size) .empty [] []).d) (by repeat (first | exact .refl _ | exact .nil | refine .agg ?_ | refine .cons ?_ ?_)) ([0]) ([scA s (stepAt s p)]) rfl rfl rfl ?_ ?_
      · repeat (first | exact boz | refine boc ?_)
      · rw [hex]; exact TrQ.ok hf ⟨rfl, by rw [ha]⟩
    | false =>
      have hh2 := hh
      rw [step_hash] at hh2
      unfold scA scO
      refine triS_of_runs Tryz.func73 rfl Tryz.ntmps73 (rs := [.cell 2 31]) rfl rfl rfl 1 rfl ?_
      refine sr ?_; refine oc (T := fun _ => False) (alc ti31 ?_ (hl := by simp only [List.length_cons, List.length_nil, Nat.reduceAdd]; rfl)); refine nx ?_; refine runs_seq ?_; refine sr ?_; refine o1 (mv ?_); refine o1 (ncb ?_)
      refine o1 (fdb ti105 ?_); refine o1 (ldb ti9 ?_); refine oc (T := fun _ => False) (op_call ca102 rfl rfl rfl rfl (cut_spec (stepTok s p)) (fir (fir .nil)) (fun d hd => ?_)); obtain rfl := hd; rw [hh]; refine o1 (mv ?_); refine o1 (ex2 ?_)
      refine o1 (ex2 ?_); refine o1 (asg ?_); refine o1 (asg ?_); refine nx ?_; refine kp [4, 3, 2, 0] ?_; refine sr ?_; refine o1 (mv ?_); refine nx ?_; refine cd (fun h2 => ?_) (fun h2 => ?_)
      · simp only [nrm, Int.reduceEq, Int.reduceNe, Int.reduceLT, Int.reduceLE] at h2
      (try simp only [nrm, Int.reduceEq, Int.reduceNe, Int.reduceLT, Int.reduceLE] at h2); refine runs_skip ?_; refine seq_normal ?_; refine sr ?_; refine o1 (mv ?_)
      refine oc (op_callo ca105 rfl rfl rfl rfl (stake_spec s hs (stepAt s p) hsl.2 (stepTok s p) ⟨#[40]⟩ (tokR s p).2.1) [0] (boc .nil) rfl rfl rfl rfl (fir (fir .nil)) (fun s ob' hq => ?_) (fun s ob' hq => ?_))
      rotate_left
      · rcases hq with ⟨_, hq1, _⟩ | ⟨htk, hq1, rfl⟩
        · cases hq1
        cases hq1; refine ⟨_, _, _, _, _, rfl, rfl, rfl, rfl, rfl, ?_⟩; refine leave_d ([0]) ([.dead]) rfl rfl rfl (by repeat (first | exact boz | refine bod ?_)) ?_
        rw [termR_bad (by rintro ⟨ha, hb | hb⟩; rw [show hashB (tokR s p).1 = true by simp [hashB, ha, hb]] at hh2; cases hh2; exact htk ((step_is (by decide) (by decide)).2 hb))]; exact TrQ.bad (a := (tokR s p).2.1) rfl ⟨rfl, rfl⟩
      rcases hq with ⟨htk, hq1, rfl⟩ | ⟨_, hq1, _⟩
      rotate_left
      · cases hq1
      cases hq1
      have c2 : (tokR s p).1 = ⟨#[40]⟩ := (step_is (by decide) (by decide)).1 htk
      have hl2 := stepAt_le hsl.2
      have hl1 : p < stepAt s p := by
        have h7 := tokR_at (s := s) hp
        have h9 := step_tok (s := s) (p := p) (by rw [c2]; decide)
        rw [h9.2.1, nextR_ok (by rw [c2]; decide), c2]
        have : (ByteArray.mk #[40]).size = 1 := rfl
        simp only; omega
      unfold scA scO
      refine ⟨_, _, _, _, _, rfl, rfl, rfl, rfl, rfl, ?_⟩; refine nx ?_; refine runs_seq ?_; refine kp [2, 0] ?_; refine a_start ?_ (hm := by exact mixed)
      refine A1 0 rfl (fl_slice_arr ua121 ti9 rfl rfl rfl rfl rfl (by omega) rfl rfl ⟨_, rfl, ?_⟩); refine A1 1 rfl (mv ⟨_, rfl, ?_⟩); refine A1 2 rfl (ncb ⟨_, rfl, ?_⟩); refine A1 3 rfl (fdb ti105 ⟨_, rfl, ?_⟩)
      refine A1 4 rfl (ldb ti9 ⟨_, rfl, ?_⟩); refine A2 (T := fun _ => False) 5 rfl (op_call ca98 rfl rfl rfl rfl (index_spec (wordsT.drop 1) (stepTok s (stepAt s p)) (by decide)) (fir (fir .nil)) (fun d hd => ?_)); obtain rfl := hd
      have hik := idx_kind (stepTok s (stepAt s p))
      have hik2 := kindT_le (stepTok s (stepAt s p))
      refine A1 6 rfl (iad ⟨_, rfl, ?_⟩); refine A1 7 rfl (asg ⟨_, rfl, ?_⟩); refine a_end ?_; refine seq_normal ?_; refine runs_seq ?_; refine runs_seq ?_; refine kp [7, 2, 0] ?_
      rw [idx_kind, step_kind]
      have hkl := kindT_le (tokR s (stepAt s p)).1
      generalize hk : kindT (tokR s (stepAt s p)).1 = k at hkl ⊢
      refine runs_region ?_; refine o1 (mv ?_); refine o1 (ieq ?_); refine nx ?_; refine cd (fun h10 => ?_) (fun h10 => ?_)
      · (try simp only [nrm, Int.reduceEq, Int.reduceNe, Int.reduceLT, Int.reduceLE] at h10)
        refine runs_region ?_; refine o1 (mv ?_)
        refine oc (op_callo ca104 rfl rfl rfl rfl (sfail_spec s (stepAt s (stepAt s p)) (stepTok s (stepAt s p)) (tokR s (stepAt s p)).2.1) [0] (boc .nil) rfl rfl rfl rfl (fir .nil) (fun s ob' hq => ?_) (fun s ob' hq => ?_))
        · cases hq.1
        obtain ⟨hq1, rfl⟩ := hq; cases hq1; refine ⟨_, _, _, _, _, rfl, rfl, rfl, rfl, rfl, ?_⟩; refine leave_d ([0]) ([.dead]) rfl rfl rfl (by repeat (first | exact boz | refine bod ?_)) ?_
        rw [termR_kind c2 (by rw [nextR_eq (by rw [c2]; decide)]; show kindT (tokR s (stepAt s p)).1 = 0; omega), nextR_eq (by rw [c2]; decide)]; exact TrQ.bad (a := (tokR s (stepAt s p)).2.1) rfl ⟨rfl, rfl⟩
      (try simp only [nrm, Int.reduceEq, Int.reduceNe, Int.reduceLT, Int.reduceLE] at h10); refine runs_skip ?_; refine seq_normal ?_; refine sr ?_; refine o1 (mv ?_)
      refine oc (ck ca101 rfl rfl (step_spec s hs (stepAt s (stepAt s p)) hl2.2 (stepTok s (stepAt s p)) (tokR s (stepAt s p)).2.1) [0] rfl (boc .nil) (fir .nil) ?_); refine nx ?_; refine kp [7, 2, 0] ?_; refine sr ?_; refine o1 (mv ?_)
      refine o1 (bld ti31 ?_); refine oc (T := fun _ => False) (alc ti31 ?_ (hl := by simp only [List.length_cons, List.length_nil, Nat.reduceAdd]; rfl)); refine oc (sto ti31 ?_); refine nx ?_; refine runs_seq ?_; refine runs_nilrow 31 5 rfl ?_
      refine runs_region ?_; refine o1 (asg ?_); refine nx ?_; refine runs_seq ?_; refine sr ?_; refine o1 (mv ?_); refine nx ?_; refine kp [49, 9, 8, 2, 0] ?_
      apply runs_cut_o (ι := ByteArray × List Lvl × Nat) (fun ⟨nm, L, q0⟩ => [(9, int (partsOf k))]) (fun ⟨nm, L, q0⟩ => [scA s q0, .cells [.d (.v (.int .i64 0)), .d (.v (.int .i64 0)), .d (.v (.string .empty)), .d (.v (.slice none 0 0)), .d (.v (.slice none 0 0))] 31, .cells [.d (.v (.int .i64 k)), .d (.v (.int .i64 0)), .d (.v (.string nm)), .own 3 3 (lvls L), .d (.v (.slice none 0 0))] 31, .row 45 3, .nilrow 31 5]) [8, 2, 0] (fun ⟨nm, L, q0⟩ => headR s k ⟨(stepAt s (stepAt s p)), none⟩ = (nm, L, ⟨q0, none⟩) ∧ ¬ k = 0)
      case hk => exact rfl
      case h1 =>
        refine runs_block ?_; refine runs_seq ?_
        have hk0 : ¬ k = 0 := by omega
        refine runs_region ?_; refine o1 (ieq ?_); refine o1 (asg ?_); refine nx ?_; refine cd (fun h16 => ?_) (fun h16 => ?_)
        · (try simp only [nrm, Int.reduceEq, Int.reduceNe, Int.reduceLT, Int.reduceLE] at h16)
          refine kp [8, 2, 0] ?_
          have ihL := slevel_spec (gl := glT g) s hs (s.size + 1) (stepAt s (stepAt s p)) hl2.2 (by omega)
          rcases hla : levelR (s.size + 1) s ⟨(stepAt s (stepAt s p)), none⟩ with ⟨⟨ka, na, aa⟩, ⟨pa, fa⟩⟩
          rw [hla] at ihL
          refine runs_region ?_; refine o1 (mv ?_); refine oc (op_callo ca106 rfl rfl rfl rfl (ihL) [0] (boc .nil) rfl rfl rfl rfl (fir .nil) (fun s ob' hq => ?_) (fun s ob' hq => ?_))
          rotate_left
          · obtain ⟨a, hfa, rfl, rfl⟩ := hq.pan
            refine ⟨_, _, _, _, _, rfl, rfl, rfl, rfl, rfl, ?_⟩; refine leave_d ([0]) ([.dead]) rfl rfl rfl (by repeat (first | exact boz | refine bod ?_)) ?_
            exact TrQ.bad (term_headbad c2 hk hk0 (by rw [head_one (by omega), hla]; exact hfa)) ⟨rfl, rfl⟩
          obtain ⟨hfa, rfl, rfl⟩ := hq.ret; simp only at hfa; subst hfa; refine ⟨_, _, _, _, _, rfl, rfl, rfl, rfl, rfl, ?_⟩
          refine oc (T := fun _ => False) (op_lit sl28 [.tmp 53] ti45 rfl rfl rfl rfl rfl rfl rfl (by decide) (by decide) (by decide) (by simp only [List.length_cons, List.length_nil, Nat.reduceAdd]; rfl) rfl ?_); refine o1 (fdb ti31 ?_)
          refine oc (sto ti28 ?_); refine o1 (asg ?_); refine ops_nil ?_; refine inb_normal ?_; refine seq_back ?_; refine back_c ((.empty, [Lvl.mk ka na aa], pa)) rfl ?_ ([0, 1, 2, 4, 3]) ?_
          · exact ⟨by rw [head_one (by omega), hla], hk0⟩
          · refine mo ?_ (slx rfl (by exact Fit.of_eq (by unfold partsOf; first | (rw [if_pos (by omega)]; rfl) | (rw [if_neg (by omega), if_pos (by omega)]; rfl) | (rw [if_neg (by omega), if_neg (by omega)]; rfl))) (sly (sly (sly slz))))
            repeat (first | exact boz | refine boc ?_ | refine bor ?_ | refine bonn ?_)
        (try simp only [nrm, Int.reduceEq, Int.reduceNe, Int.reduceLT, Int.reduceLE] at h16); refine sr ?_; refine o1 (ieq ?_); refine o1 (asg ?_); refine nx ?_; refine cdf (fun h18 => ?_) (fun h18 => ?_)
        · (try simp only [nrm, Int.reduceEq, Int.reduceNe, Int.reduceLT, Int.reduceLE] at h18)
          refine runs_seq ?_; refine kp [49, 9, 8, 2, 0] ?_; refine runs_nilrow 45 3 rfl ?_; refine runs_region ?_; refine o1 (ieq ?_); refine o1 (asg ?_); refine nx ?_; refine cdf (fun h22 => ?_) (fun h22 => ?_)
          · (try simp only [nrm, Int.reduceEq, Int.reduceNe, Int.reduceLT, Int.reduceLE] at h22)
            refine runs_skip ?_; refine inb_normal ?_; refine seq_back ?_; refine back_c ((.empty, [], (stepAt s (stepAt s p)))) rfl ?_ ([0, 1, 2, 4, 3]) ?_
            · exact ⟨head_else (by omega) (by omega), hk0⟩
            · refine mo ?_ (slx rfl (by exact Fit.of_eq (by unfold partsOf; first | (rw [if_pos (by omega)]; rfl) | (rw [if_neg (by omega), if_pos (by omega)]; rfl) | (rw [if_neg (by omega), if_neg (by omega)]; rfl))) (sly (sly (sly slz))))
              repeat (first | exact boz | exact fiz | refine boc ?_ | refine bonn ?_ | refine bon ?_ | refine boe ?_ ?_ | refine fir ?_ | refine .cons (.nil rfl) ?_)
          (try simp only [nrm, Int.reduceEq, Int.reduceNe, Int.reduceLT, Int.reduceLE] at h22); refine kp [8, 2, 0] ?_; refine runs_region ?_; refine o1 (asg ?_); refine ops_nil ?_; refine inb_normal ?_; refine seq_back ?_
          refine back_c ((.empty, [], (stepAt s (stepAt s p)))) rfl ?_ ([0, 1, 2, 4, 3]) ?_
          · exact ⟨head_else (by omega) (by omega), hk0⟩
          · refine mo ?_ (slx rfl (by exact Fit.of_eq (by unfold partsOf; first | (rw [if_pos (by omega)]; rfl) | (rw [if_neg (by omega), if_pos (by omega)]; rfl) | (rw [if_neg (by omega), if_neg (by omega)]; rfl))) (sly (sly (sly slz))))
            repeat (first | exact boz | exact fiz | refine boc ?_ | refine bonn ?_ | refine bon ?_ | refine boe ?_ ?_ | refine fir ?_ | refine .cons (.nil rfl) ?_)
        (try simp only [nrm, Int.reduceEq, Int.reduceNe, Int.reduceLT, Int.reduceLE] at h18); refine kp [8, 2, 0] ?_; refine sr ?_; refine o1 (mv ?_)
        refine oc (op_callo ca107 rfl rfl rfl rfl (sname_spec s hs (stepAt s (stepAt s (stepAt s p))) (stepAt_le hl2.2).2 (stepTok s (stepAt s (stepAt s p))) (tokR s (stepAt s (stepAt s p))).2.1) [0] (boc .nil) rfl rfl rfl rfl (fir .nil) (fun s ob' hq => ?_) (fun s ob' hq => ?_))
        rotate_left
        · rcases hq with ⟨_, hq1, _⟩ | ⟨hnm, hq1, rfl⟩
          · cases hq1
          cases hq1; refine ⟨_, _, _, _, _, rfl, rfl, rfl, rfl, rfl, ?_⟩; refine leave_d ([0]) ([.dead]) rfl rfl rfl (by repeat (first | exact boz | refine bod ?_)) ?_
          exact TrQ.bad (term_headbad c2 hk hk0 (head_no (by omega) (by rw [← step_isName]; exact hnm))) ⟨rfl, rfl⟩
        rcases hq with ⟨hnm, hq1, rfl⟩ | ⟨_, hq1, _⟩
        rotate_left
        · cases hq1
        cases hq1
        have hnm2 : isNameB (tokR s (stepAt s (stepAt s p))).1 = true := by rw [← step_isName]; exact hnm
        have hnt : (tokR s (stepAt s (stepAt s p))).1 = stepTok s (stepAt s (stepAt s p)) := (step_tok (by intro e; rw [e] at hnm2; simp [isNameB] at hnm2)).1.symm
        refine ⟨_, _, _, _, _, rfl, rfl, rfl, rfl, rfl, ?_⟩; refine o1 (fdb ti31 ?_); refine oc (sto ti9 ?_); refine o1 (asg ?_); refine nx ?_; refine runs_block ?_; refine kp [9, 8, 2, 0] ?_; refine runs_nilrow 45 3 rfl ?_
        apply runs_loop_o (ι := Nat × List Lvl × Nat) (fun ⟨m, acc, q⟩ => []) (fun ⟨m, acc, q⟩ => [scA s q, .cells [.d (.v (.int .i64 0)), .d (.v (.int .i64 0)), .d (.v (.string .empty)), .d (.v (.slice none 0 0)), .d (.v (.slice none 0 0))] 31, .cells [.d (.v (.int .i64 k)), .d (.v (.int .i64 0)), .d (.v (.string (stepTok s (stepAt s (stepAt s p))))), .own 4 3 (lvls acc), .d (.v (.slice none 0 0))] 31, .nilrow 31 5, .row 45 3]) [9, 8, 2, 0] (fun ⟨m, acc, q⟩ => q ≤ s.size ∧ acc.length + m = s.size + 2 ∧ s.size - q < m ∧ levelsR (s.size + 2) s ⟨stepAt s (stepAt s (stepAt s p)), none⟩ = (acc ++ (levelsR m s ⟨q, none⟩).1, (levelsR m s ⟨q, none⟩).2)) (fun ⟨m, acc, q⟩ => m) ((s.size + 2, [], stepAt s (stepAt s (stepAt s p)))) ([0, 1, 2, 3, 4])
        case hk => exact rfl
        case hI =>
          exact ⟨(stepAt_le hl2.2).2, by simp, by omega, rfl⟩
        case hm =>
          refine mo ?_ (sly (sly (sly (sly slz))))
          repeat (first | exact boz | exact fiz | refine boc ?_ | refine bonn ?_ | refine bon ?_ | refine boe ?_ ?_ | refine fir ?_ | refine .cons (.nil rfl) ?_)
        case h =>
          rintro ⟨m, acc, q⟩ hinv
          try dsimp only at hinv
          refine kp [9, 8, 2, 0] ?_; refine runs_seq ?_; refine sr ?_; refine o1 (mv ?_); refine o1 (ncb ?_); refine o1 (fdb ti105 ?_); refine o1 (ldb ti9 ?_); refine o1 (sne ?_); refine nx ?_; refine cdf (fun h20 => ?_) (fun h20 => ?_)
          · (try simp only [nrm, Int.reduceEq, Int.reduceNe, Int.reduceLT, Int.reduceLE] at h20)
            refine runs_exit ?_; refine seq_exit ?_; refine seq_exit ?_; refine inb_exit ?_; refine inb_normal ?_; refine seq_back ?_; refine back_c ((stepTok s (stepAt s (stepAt s p)), acc, q)) rfl ?_ ([0, 1, 2, 4, 3]) ?_
            · exact ⟨by rw [head_two (by omega) hnm2, hinv.2.2.2, levels_stop (by rintro ⟨_, hb⟩; exact hb (peek_step.2 h20)), List.append_nil, hnt], hk0⟩
            · refine mo ?_ (slx rfl (by exact Fit.of_eq (by unfold partsOf; first | (rw [if_pos (by omega)]; rfl) | (rw [if_neg (by omega), if_pos (by omega)]; rfl) | (rw [if_neg (by omega), if_neg (by omega)]; rfl))) (sly (sly (sly slz))))
              repeat (first | exact boz | refine boc ?_ | refine bor ?_ | refine bonn ?_)
          (try simp only [nrm, Int.reduceEq, Int.reduceNe, Int.reduceLT, Int.reduceLE] at h20); refine runs_skip ?_; refine seq_normal ?_; refine runs_block ?_; refine kp [9, 8, 2, 0] ?_
          have hm1 := hinv.2.2.1
          have hpk : ¬ peekR s ⟨q, none⟩ = ⟨#[41]⟩ := fun e => h20 (peek_step.1 e)
          have ihL := slevel_spec (gl := glT g) s hs (s.size + 1) q hinv.1 (by omega)
          rcases hlb : levelR (s.size + 1) s ⟨q, none⟩ with ⟨⟨kb, nb, ab⟩, ⟨qb, fb⟩⟩
          rw [hlb] at ihL
          have hln := lvls_len acc
          have hlast : lvls acc ++ [[.v (.int .i64 kb), .v (.string nb), .sl 3 (lvls ab)]] = lvls (acc ++ [Lvl.mk kb nb ab]) := by rw [lvls_app]; rfl
          refine a_start ?_ (hm := by exact mixed); refine A1 0 rfl (fdb ti31 ⟨_, rfl, ?_⟩); refine A1 1 rfl (ldb ti28 ⟨_, rfl, ?_⟩); refine A1 2 rfl (mv ⟨_, rfl, ?_⟩)
          refine A2 3 rfl (op_callo ca106 rfl rfl rfl rfl (ihL) [0] (boc .nil) rfl rfl rfl rfl (fir .nil) (fun s ob' hq => ?_) (fun s ob' hq => ?_))
          rotate_left
          · obtain ⟨a, hfa, rfl, rfl⟩ := hq.pan
            refine ⟨_, _, _, _, _, rfl, rfl, rfl, rfl, rfl, ?_⟩; refine leave_d ([0]) ([.dead]) rfl rfl rfl (by repeat (first | exact boz | refine bod ?_)) ?_
            exact TrQ.bad (term_headbad c2 hk hk0 (by rw [head_two (by omega) hnm2]; exact levels_bad hinv.2.2.2 (by omega) ⟨rfl, hpk⟩ (by rw [hlb]; exact hfa))) ⟨rfl, rfl⟩
          obtain ⟨hfb, rfl, rfl⟩ := hq.ret; simp only at hfb; subst hfb; refine ⟨_, _, _, _, _, rfl, rfl, rfl, rfl, rfl, ?_⟩
          refine A2 (T := fun _ => False) 4 rfl (op_lit sl28 [.tmp 69] ti45 rfl rfl rfl rfl rfl rfl rfl (by decide) (by decide) (by decide) (by simp only [List.length_cons, List.length_nil, Nat.reduceAdd]; rfl) rfl ?_)
          refine A2 5 rfl (op_append sl28 rfl rfl rfl rfl rfl rfl rfl (.inl rfl) (by decide) (by simp) (by first | decide | (simp only [maxLen, List.length_cons, List.length_nil, List.length_append, List.length_map]; omega) | omega) rfl rfl rfl ?_)
          refine A1 6 rfl (fdb ti31 ⟨_, rfl, ?_⟩); refine A2 7 rfl (sto ti28 ?_); refine a_end ?_; refine inb_normal ?_; refine seq_back ?_
          rw [hlast]
          refine back_c ((m - 1, acc ++ [Lvl.mk kb nb ab], qb)) rfl ?_ ([0, 1, 2, 3, 4]) ?_
          · exact ⟨levels_stepN hinv hpk hlb, show m - 1 < m by omega⟩
          · refine mo ?_ (sly (sly (sly (sly slz))))
            repeat (first | exact boz | refine boc ?_ | refine bor ?_ | refine bonn ?_)
      case h2 =>
        rintro ⟨nm, L, q0⟩ hcut
        try dsimp only at hcut
        refine kp [9, 8, 2, 0] ?_; refine runs_seq ?_; refine runs_seq ?_; obtain ⟨hcut, hk0⟩ := hcut
        have hh3 := headR_le (s := s) k (r := ⟨(stepAt s (stepAt s p)), none⟩) hl2.2
        rw [hcut] at hh3
        dsimp only at hh3
        have hpl := partsOf_le k
        have hl2l := hl2.1
        refine runs_region ?_; refine o1 (mv ?_); refine o1 (mv ?_); refine nx ?_; refine runs_block ?_; refine kp [76, 75, 8, 2, 0] ?_
        apply runs_loop_o (ι := Nat × Nat) (fun ⟨i, q⟩ => [(76, int i)]) (fun ⟨i, q⟩ => [scA s q, .cells [.d (.v (.int .i64 0)), .d (.v (.int .i64 0)), .d (.v (.string .empty)), .d (.v (.slice none 0 0)), .d (.v (.slice none 0 0))] 31, .cells [.d (.v (.int .i64 k)), .d (.v (.int .i64 0)), .d (.v (.string nm)), .own 3 3 (lvls L), .own 4 5 (trms (partsR (termR n s) i ⟨q0, none⟩).1)] 31, .row 45 3, .row 31 5]) [75, 8, 2, 0] (fun ⟨i, q⟩ => i ≤ partsOf k ∧ q ≤ s.size ∧ stepAt s p ≤ q ∧ (partsR (termR n s) i ⟨q0, none⟩).2 = ⟨q, none⟩) (fun ⟨i, q⟩ => partsOf k - i) ((0, q0)) ([0, 1, 2, 3, 4])
        case hk => exact rfl
        case hI =>
          exact ⟨Nat.zero_le _, hh3.2, by omega, rfl⟩
        case hm =>
          refine mo ?_ (sly (sly (sly (sly (sly slz)))))
          repeat (first | exact boz | exact fiz | refine boc ?_ | refine bor ?_ | refine bon ?_ | refine boe ?_ ?_ | refine fir ?_ | refine .cons (.nil rfl) ?_)
        case h =>
          rintro ⟨i, q⟩ hinv
          try dsimp only at hinv
          refine kp [76, 75, 8, 2, 0] ?_; refine sr ?_; refine o1 (ilt ?_); refine nx ?_; refine runs_seq ?_; refine cdf (fun h25 => ?_) (fun h25 => ?_)
          · (try simp only [nrm, Int.reduceEq, Int.reduceNe, Int.reduceLT, Int.reduceLE] at h25)
            refine runs_exit ?_; refine seq_exit ?_; refine seq_exit ?_; refine inb_exit ?_; refine seq_normal ?_; refine runs_seq ?_; obtain ⟨hi1, hi2, hi3, hi4⟩ := hinv; obtain rfl : i = partsOf k := (by omega); refine runs_region ?_
            refine o1 (mv ?_); refine oc (op_callo ca105 rfl rfl rfl rfl (stake_spec s hs (stepAt s q) (stepAt_le hi2).2 (stepTok s q) ⟨#[41]⟩ (tokR s q).2.1) [0] (boc .nil) rfl rfl rfl rfl (fir (fir .nil)) (fun s ob' hq => ?_) (fun s ob' hq => ?_))
            rotate_left
            · rcases hq with ⟨_, hq1, _⟩ | ⟨htk2, hq1, rfl⟩
              · cases hq1
              cases hq1; refine ⟨_, _, _, _, _, rfl, rfl, rfl, rfl, rfl, ?_⟩; refine leave_d ([0]) ([.dead]) rfl rfl rfl (by repeat (first | exact boz | refine bod ?_)) ?_
              exact TrQ.bad (term_takebad c2 hk hk0 hcut hi4 (fun e => htk2 ((step_is (by decide) (by decide)).2 e))) ⟨rfl, rfl⟩
            rcases hq with ⟨htk2, hq1, rfl⟩ | ⟨_, hq1, _⟩
            rotate_left
            · cases hq1
            cases hq1; refine ⟨_, _, _, _, _, rfl, rfl, rfl, rfl, rfl, ?_⟩; refine nx ?_; refine kp [8, 2] ?_; refine sr ?_; refine o1 (ldb ti31 ?_); refine oc (sto ti31 ?_); refine nx ?_; refine runs_ret ?_; refine fin_ret ?_
            refine fin_odl ⟨_, _, rfl, (from_cell rfl rfl ti31 rfl rfl rfl rfl), rfl⟩ rfl ((Trm.mk k 0 nm L (partsR (termR n s) (partsOf k) ⟨q0, none⟩).1).d) (by exact .refl _) ([0]) ([scA s (stepAt s q)]) rfl rfl rfl ?_ ?_
            · repeat (first | exact boz | refine boc ?_)
            · rw [term_good c2 hk hk0 hcut hi4 ((step_is (by decide) (by decide)).1 htk2)]; exact TrQ.ok rfl ⟨rfl, rfl⟩
          (try simp only [nrm, Int.reduceEq, Int.reduceNe, Int.reduceLT, Int.reduceLE] at h25); refine runs_skip ?_; refine seq_normal ?_; refine runs_seq ?_; refine runs_block ?_; obtain ⟨hi1, hi2, hi3, hi4⟩ := id hinv
          have ihT := ih q hi2 (by omega)
          have hle := termR_le (s := s) n ⟨q, none⟩ hi2
          rcases hlc : termR n s ⟨q, none⟩ with ⟨⟨k2, n2, s2, l2, a2'⟩, ⟨qc, fc⟩⟩
          rw [hlc] at ihT hle
          simp only at hle
          have hln : (trms (partsR (termR n s) i ⟨q0, none⟩).1).length = i := by rw [trms_len, partsR_len]
          have hlast : trms (partsR (termR n s) i ⟨q0, none⟩).1 ++ [[.v (.int .i64 k2), .v (.int .i64 n2), .v (.string s2), .sl 3 (lvls l2), .sl 5 (trms a2')]] = trms (partsR (termR n s) (i + 1) ⟨q0, none⟩).1 := by simp only [partsR]; rw [hi4, hlc, trms_app]; rfl
          refine a_start ?_ (hm := by exact mixed); refine A1 0 rfl (fdb ti31 ⟨_, rfl, ?_⟩); refine A1 1 rfl (ldb ti29 ⟨_, rfl, ?_⟩); refine A1 2 rfl (mv ⟨_, rfl, ?_⟩)
          refine A2 3 rfl (op_callo ca73 rfl rfl rfl rfl (ihT) [0] (boc .nil) rfl rfl rfl rfl (fir .nil) (fun s ob' hq => ?_) (fun s ob' hq => ?_))
          rotate_left
          · obtain ⟨a, hfa, rfl, rfl⟩ := hq.pan
            refine ⟨_, _, _, _, _, rfl, rfl, rfl, rfl, rfl, ?_⟩; refine leave_d ([0]) ([.dead]) rfl rfl rfl (by repeat (first | exact boz | refine bod ?_)) ?_
            exact TrQ.bad (term_partbad c2 hk hk0 hcut (i := i) (by omega) (by rw [hi4, hlc]; exact hfa)) ⟨rfl, rfl⟩
          obtain ⟨hfc, rfl, rfl⟩ := hq.ret; simp only at hfc; subst hfc; refine ⟨_, _, _, _, _, rfl, rfl, rfl, rfl, rfl, ?_⟩
          refine A2 (T := fun _ => False) 4 rfl (op_lit sl29 [.tmp 81] ti31 rfl rfl rfl rfl rfl rfl rfl (by decide) (by decide) (by decide) (by simp only [List.length_cons, List.length_nil, Nat.reduceAdd]; rfl) rfl ?_)
          refine A2 5 rfl (op_append sl29 rfl rfl rfl rfl rfl rfl rfl (.inl rfl) (by decide) (by simp) (by first | decide | (simp only [maxLen, List.length_cons, List.length_nil, List.length_append, List.length_map]; omega) | omega) rfl rfl rfl ?_)
          refine A1 6 rfl (fdb ti31 ⟨_, rfl, ?_⟩); refine A2 7 rfl (sto ti29 ?_); refine a_end ?_; refine inb_normal ?_; refine seq_normal ?_; refine kp [76, 75, 8, 2, 0] ?_; refine runs_region ?_; refine o1 (iad ?_); refine o1 (mv ?_)
          refine ops_nil ?_; refine seq_back ?_
          rw [hlast]
          refine back_c ((i + 1, qc)) rfl ?_ ([0, 1, 2, 3, 4]) ?_
          · exact ⟨⟨by omega, hle.2, by omega, by simp only [partsR]; rw [hinv.2.2.2, hlc]⟩, show partsOf k - (i + 1) < partsOf k - i by omega⟩
          · refine mo ?_ (sly (sly (sly (sly (sly slz)))))
            repeat (first | exact boz | refine boc ?_ | refine bor ?_)
end Go.Proofs.YtneaancanfpdhaaGreatDoor
namespace Go.Proofs.YtneaancanfpdhaaGreatDoor
open Go Go.Vd Go.RowKit
attribute [local irreducible] Runs OpsR OpR FloatR AnyR AnyO
variable {g gl : Nat → List D}

theorem tclos_nil (x y z u v : D) : TriDf Tryz.prog gl 70 [.cells [.d (.v .nilIface)] 54, .cells [.d x, .d y, .d z, .d u, .d v] 31] [.blk 0 0, .blk 1 0] .ret (fun U' ob' => U' = .ret ∧ ob' = [.cells [.d (.v .nilIface)] 54, .cells [.d x, .d y, .d z, .d u, .d v] 31]) := by
  refine triDf_of_runs (Q0 := fun out ob' => out = .ret (.d (.tup [])) ∧ ob' = [.cells [.d (.v .nilIface)] 54, .cells [.d x, .d y, .d z, .d u, .d v] 31]) Tryz.func70 rfl Tryz.ntmps70 (rs := []) rfl rfl rfl 2 rfl ?_ ?_
  · rintro out ob' ⟨rfl, rfl⟩; exact ⟨⟨_, rfl⟩, rfl, rfl⟩
  refine sr ?_; refine o1 (ldb ti54 ?_); refine o1 (f_ineq_nil ii54 ?_); refine nx ?_; refine cd (fun h0 => ?_) (fun h0 => ?_)
  · simp only [nrm, Int.reduceEq, Int.reduceNe, Int.reduceLT, Int.reduceLE] at h0
  (try simp only [nrm, Int.reduceEq, Int.reduceNe, Int.reduceLT, Int.reduceLE] at h0); refine runs_skip ?_; refine fin_normal ?_
  refine fin_od (l := []) rfl rfl ([0, 1]) ([.cells [.d (.v .nilIface)] 54, .cells [.d x, .d y, .d z, .d u, .d v] 31]) rfl rfl rfl ?_ ?_
  · repeat (first | exact boz | refine boc ?_)
  · exact ⟨rfl, rfl⟩
theorem tclos_err (x y z u v : D) (c a : Int) : TriDf Tryz.prog gl 70 [.cells [.d (fltD c a)] 54, .cells [.d x, .d y, .d z, .d u, .d v] 31] [.blk 0 0, .blk 1 0] .ret (fun U' ob' => U' = .ret ∧ ob' = [.cells [.d (fltD c a)] 54, .cells [.d (.v (.int .i64 0)), .d (.v (.int .i64 0)), .d (.v (.string .empty)), .d (.v (.slice none 0 0)), .d (.v (.slice none 0 0))] 31]) := by
  refine triDf_of_runs (Q0 := fun out ob' => out = .ret (.d (.tup [])) ∧ ob' = [.cells [.d (fltD c a)] 54, .cells [.d (.v (.int .i64 0)), .d (.v (.int .i64 0)), .d (.v (.string .empty)), .d (.v (.slice none 0 0)), .d (.v (.slice none 0 0))] 31]) Tryz.func70 rfl Tryz.ntmps70 (rs := []) rfl rfl rfl 2 rfl ?_ ?_
  · rintro out ob' ⟨rfl, rfl⟩; exact ⟨⟨_, rfl⟩, rfl, rfl⟩
  unfold fltD
  refine sr ?_; refine o1 (ldb ti54 ?_); refine o1 (f_ineq_d ii54 ?_); refine nx ?_; refine cdf (fun h0 => ?_) (fun h0 => ?_)
  · simp only [nrm, Int.reduceEq, Int.reduceNe, Int.reduceLT, Int.reduceLE] at h0
  (try simp only [nrm, Int.reduceEq, Int.reduceNe, Int.reduceLT, Int.reduceLE] at h0); refine runs_region ?_; refine o1 (bld ti31 ?_); refine oc (sto ti31 ?_); refine ops_nil ?_; refine fin_normal ?_
  refine fin_od (l := []) rfl rfl ([0, 1]) ([.cells [.d (fltD c a)] 54, .cells [.d (.v (.int .i64 0)), .d (.v (.int .i64 0)), .d (.v (.string .empty)), .d (.v (.slice none 0 0)), .d (.v (.slice none 0 0))] 31]) rfl rfl rfl ?_ ?_
  · repeat (first | exact boz | refine boc ?_)
  · exact ⟨rfl, rfl⟩

theorem parseT_long {s : ByteArray} (h : s.size > 20000) : parseT s = (zeroT, 2, 0) := by unfold parseT; rw [if_pos h]
theorem parseT_fault {s : ByteArray} (h : ¬ s.size > 20000) {a : Nat} (hf : (doneR s (termR (s.size + 1) s ⟨0, none⟩).2).f = some a) : parseT s = (zeroT, 1, (a : Int)) := by
  unfold parseT; rw [if_neg h]; simp only [hf]
theorem parseT_fine {s : ByteArray} (h : ¬ s.size > 20000) (hf : (doneR s (termR (s.size + 1) s ⟨0, none⟩).2).f = none) : parseT s = ((termR (s.size + 1) s ⟨0, none⟩).1, 0, 0) := by
  unfold parseT; rw [if_neg h]; simp only [hf]
theorem tparse_spec (s : ByteArray) : TriD Tryz.prog (glT g) 33 [.v (.string s)] (· = .tup [(parseT s).1.d, errD (parseT s).2.1 (parseT s).2.2]) := by
  rcases hla : termR (s.size + 1) s ⟨0, none⟩ with ⟨la, pa, fa⟩
  obtain ⟨ka, ma, na, la, aa⟩ := la
  refine triS_of_runsD Tryz.func33 rfl Tryz.ntmps33 (rs := [.cell 2 31, .cell 3 54]) rfl rfl rfl 0 rfl ?_
  refine sr ?_; refine oc (T := fun _ => False) (alc ti31 ?_ (hl := by simp only [List.length_cons, List.length_nil, Nat.reduceAdd]; rfl))
  refine oc (T := fun _ => False) (alc ti54 ?_ (hl := by simp only [List.length_cons, List.length_nil, Nat.reduceAdd]; rfl)); refine nx ?_; refine runs_seq ?_; refine sr ?_; refine o1 (mv ?_); refine o1 (le3 ut9 ?_); refine o1 (igt ?_)
  refine nx ?_; refine cd (fun h1 => ?_) (fun h1 => ?_)
  · (try simp only [nrm, Int.reduceEq, Int.reduceNe, Int.reduceLT, Int.reduceLE] at h1)
    refine kp [3, 2] ?_; refine sr ?_; refine o1 (ldb ti31 ?_); refine o1 (bld ti33 ?_); refine oc (T := fun _ => False) (bx ti33 ?_ (hl := by simp only [List.length_cons, List.length_nil, Nat.reduceAdd]; rfl))
    refine ops_freeze 2 rfl rfl rfl rfl rfl rfl ?_; refine o1 (f_iface_d ?_); refine oc (sto ti31 ?_); refine oc (sto ti54 ?_); refine nx ?_; refine runs_ret ?_; refine seq_ret ?_; refine fin_ret ?_
    refine fin_dl ⟨_, _, rfl, (from_cell rfl rfl ti31 rfl rfl rfl rfl), ⟨_, _, rfl, (from_cell rfl rfl ti54 rfl rfl rfl rfl), rfl⟩⟩ rfl (.tup [zeroT.d, fltD 2 0]) (by repeat (first | exact .refl _ | exact .nil | refine .agg ?_ | refine .tup ?_ | refine .cons ?_ ?_)) ?_
    rw [parseT_long (by omega)]; rfl
  (try simp only [nrm, Int.reduceEq, Int.reduceNe, Int.reduceLT, Int.reduceLE] at h1); refine runs_skip ?_; refine seq_normal ?_; refine rd_start ?_; refine rd_defer_c ca70 rfl rfl rfl rfl rfl rfl rfl rfl rfl ?_
  refine rd_defer_f ca71 rfl rfl rfl rfl rfl ?_; refine rd_go 2 rfl ?_; refine runs_seq ?_
  have hs : s.size ≤ 1099511627776 := by omega
  have hlv := sread_spec (g := g) s hs (s.size + 1) 0 (Nat.zero_le _) (by omega)
  rw [hla] at hlv
  unfold scA scO at hlv
  have hle := termR_le (s := s) (s.size + 1) ⟨0, none⟩ (Nat.zero_le _)
  rw [hla] at hle
  simp only at hle
  refine runs_region ?_; refine o1 (mv ?_); refine oc (op_callo ca72 rfl rfl rfl rfl (new_spec s hs) [] .nil rfl rfl rfl rfl (fir .nil) (fun s ob' hq => ?_) (fun s ob' hq => ?_))
  rotate_left
  · first | exact hq.elim | cases hq.1
  obtain ⟨hq1, rfl⟩ := hq; cases hq1
  unfold scA scO
  refine ⟨_, _, _, _, _, rfl, rfl, rfl, rfl, rfl, ?_⟩; refine o1 (asg ?_); refine nx ?_; refine kp [4, 3, 2] ?_; refine sr ?_; refine o1 (mv ?_)
  refine oc (op_callo ca73 rfl rfl rfl rfl (hlv) [2] (boc .nil) rfl rfl rfl rfl (fir .nil) (fun s ob' hq => ?_) (fun s ob' hq => ?_))
  rotate_left
  · obtain ⟨a, hfa, rfl, rfl⟩ := hq.pan
    refine ⟨_, _, _, _, _, rfl, rfl, rfl, rfl, rfl, ?_⟩
    simp only at hfa; subst hfa
    refine ⟨_, rfl, fun n => ?_⟩; refine lv_call (catch_pan _ 1 a) [1] (.cons rfl (.cells rfl (FitL.rfl _)) .nil) rfl rfl rfl rfl (.cons (.refl _) .nil) (fun U' ob' hq => ?_); obtain ⟨rfl, rfl⟩ := hq; refine ⟨_, _, _, _, rfl, rfl, rfl, rfl, ?_⟩
    refine lv_call (tclos_err _ _ _ _ _ 1 a) [1, 0] (.cons rfl (.cells rfl (FitL.rfl _)) (.cons rfl (.cells rfl (FitL.rfl _)) .nil)) rfl rfl rfl rfl (.cons (.refl _) (.cons (.refl _) .nil)) (fun U' ob' hq => ?_); obtain ⟨rfl, rfl⟩ := hq
    refine ⟨_, _, _, _, rfl, rfl, rfl, rfl, ?_⟩; refine lv_end rfl ?_
    refine fin_dl ⟨_, _, rfl, (from_cell rfl rfl ti31 rfl rfl rfl rfl), ⟨_, _, rfl, (from_cell rfl rfl ti54 rfl rfl rfl rfl), rfl⟩⟩ rfl (.tup [zeroT.d, fltD 1 a]) (.tup (.cons (.agg (.cons (.refl _) (.cons (.refl _) (.cons (.refl _) (.cons .nil (.cons .nil .nil)))))) (.cons (.refl _) .nil))) ?_
    rw [parseT_fault (by omega) (a := a) (by rw [hla]; exact doneR_some)]; rfl
  obtain ⟨hfa, rfl, rfl⟩ := hq.ret
  simp only at hfa; subst hfa
  unfold scA scO
  refine ⟨_, _, _, _, _, rfl, rfl, rfl, rfl, rfl, ?_⟩; refine oc (sto ti31 ?_); refine nx ?_; refine sr ?_; refine o1 (mv ?_)
  refine oc (op_callo ca74 rfl rfl rfl rfl (send_spec s (stepAt s pa) (stepTok s pa) (tokR s pa).2.1) [2] (boc .nil) rfl rfl rfl rfl (fir .nil) (fun s ob' hq => ?_) (fun s ob' hq => ?_))
  rotate_left
  · rcases hq with ⟨_, hq1, _⟩ | ⟨hte, hq1, rfl⟩
    · cases hq1
    cases hq1; refine ⟨_, _, _, _, _, rfl, rfl, rfl, rfl, rfl, ?_⟩; refine ⟨_, rfl, fun n => ?_⟩
    refine lv_call (catch_pan _ 1 (tokR s pa).2.1) [1] (.cons rfl (.cells rfl (FitL.rfl _)) .nil) rfl rfl rfl rfl (.cons (.refl _) .nil) (fun U' ob' hq => ?_); obtain ⟨rfl, rfl⟩ := hq; refine ⟨_, _, _, _, rfl, rfl, rfl, rfl, ?_⟩
    refine lv_call (tclos_err _ _ _ _ _ 1 (tokR s pa).2.1) [1, 0] (.cons rfl (.cells rfl (FitL.rfl _)) (.cons rfl (.cells rfl (FitL.rfl _)) .nil)) rfl rfl rfl rfl (.cons (.refl _) (.cons (.refl _) .nil)) (fun U' ob' hq => ?_)
    obtain ⟨rfl, rfl⟩ := hq; refine ⟨_, _, _, _, rfl, rfl, rfl, rfl, ?_⟩; refine lv_end rfl ?_
    refine fin_dl ⟨_, _, rfl, (from_cell rfl rfl ti31 rfl rfl rfl rfl), ⟨_, _, rfl, (from_cell rfl rfl ti54 rfl rfl rfl rfl), rfl⟩⟩ rfl (.tup [zeroT.d, fltD 1 (tokR s pa).2.1]) (.tup (.cons (.agg (.cons (.refl _) (.cons (.refl _) (.cons (.refl _) (.cons .nil (.cons .nil .nil)))))) (.cons (.refl _) .nil))) ?_
    rw [parseT_fault (by omega) (a := (tokR s pa).2.1) (by rw [hla]; exact doneR_no hte)]; rfl
  rcases hq with ⟨hte, hq1, rfl⟩ | ⟨_, hq1, _⟩
  rotate_left
  · cases hq1
  cases hq1; refine ⟨_, _, _, _, _, rfl, rfl, rfl, rfl, rfl, ?_⟩; refine nx ?_; refine kp [3, 2] ?_; refine sr ?_; refine o1 (ldb ti31 ?_); refine oc (sto ti31 ?_); refine oc (sto ti54 ?_); refine nx ?_; refine runs_ret ?_; refine finT_ret ?_
  refine lv_call (catch_ret _) [1] (.cons rfl (.cells rfl (FitL.rfl _)) .nil) rfl rfl rfl rfl (.cons (.refl _) .nil) (fun U' ob' hq => ?_); obtain ⟨rfl, rfl⟩ := hq; refine ⟨_, _, _, _, rfl, rfl, rfl, rfl, ?_⟩
  refine lv_call (tclos_nil _ _ _ _ _) [1, 0] (.cons rfl (.cells rfl (FitL.rfl _)) (.cons rfl (.cells rfl (FitL.rfl _)) .nil)) rfl rfl rfl rfl (.cons (.refl _) (.cons (.refl _) .nil)) (fun U' ob' hq => ?_); obtain ⟨rfl, rfl⟩ := hq
  refine ⟨_, _, _, _, rfl, rfl, rfl, rfl, ?_⟩; refine lv_end rfl ?_
  refine fin_dl ⟨_, _, rfl, (from_cell rfl rfl ti31 rfl rfl rfl rfl), ⟨_, _, rfl, (from_cell rfl rfl ti54 rfl rfl rfl rfl), rfl⟩⟩ rfl (.tup [(Trm.mk ka ma na la aa).d, .v .nilIface]) (by exact .refl _) ?_
  rw [parseT_fine (by omega) (by rw [hla]; exact doneR_yes hte), hla]; rfl
end Go.Proofs.YtneaancanfpdhaaGreatDoor
namespace Go.Proofs.YtneaancanfpdhaaGreatDoor
open Go Go.Vd Go.RowKit Go.Extern

theorem as_valueOf_pp (t : Addr) (w : World) : (ReflectliteValue.unpack (.iface 127 (.pointer (some t)))).run Tryz.prog w
    = .ok (.agg #[.pointer (some ⟨10, 127, none⟩), .pointer (some ⟨w.heap.size, 0, none⟩), .int .u64 150]) (w.alloc (.cells #[.pointer (some t)] 127)) := by kernel_rfl
theorem as_type_pp (a : Addr) (w : World) : (ReflectliteValue.methodAny (ReflectliteValue.valueError "reflectlite.Value.Type" 0) (fun t _ _ _ => ReflectliteType.toType t) #[.agg #[.pointer (some ⟨10, 127, none⟩), .pointer (some a), .int .u64 150]]).run Tryz.prog w
    = .ok (.iface 164 (.agg #[.pointer (some ⟨10, 127, none⟩)])) w := by kernel_rfl
theorem as_methodKind (h : Value) (w : World) : (Go.method 338 164 (.agg #[h]) "Kind").run Tryz.prog w = .ok (179, h) w := by kernel_rfl
theorem as_kind_pp (w : World) : ((ReflectliteType.abiMethod fun t => (fun a : Nat => Value.int IntKind.u8 (a : Int)) <$> Rtype.kind t) #[.pointer (some ⟨10, 127, none⟩)]).run Tryz.prog w = .ok (.int .u8 22) w := by kernel_rfl
theorem as_kind_p (w : World) : ((ReflectliteType.abiMethod fun t => (fun a : Nat => Value.int IntKind.u8 (a : Int)) <$> Rtype.kind t) #[.pointer (some ⟨10, 96, none⟩)]).run Tryz.prog w = .ok (.int .u8 22) w := by kernel_rfl

/-! ### THE ENTRIES THAT READ OR WRITE MEMORY: laws with a premise on the cell (after Derived/Lib/ReflectliteSlice.lean's manner: each unfolding a lemma of its own, by rfl) -/
theorem as_rlm (z : Sem Value) (f : TypeId → Addr → Nat → Nat → Sem Value) (v : Value) :
    ReflectliteValue.method z f #[v] = (do match ← ReflectliteValue.parts v with | none => z | some (t, a, fl) => f t a fl (fl % 32)) := rfl
theorem as_parts_pp (a : Addr) (w : World) : (ReflectliteValue.parts (.agg #[.pointer (some ⟨10, 127, none⟩), .pointer (some a), .int .u64 150])).run Tryz.prog w = .ok (some (127, a, 150)) w := by kernel_rfl
/-- (Value).IsNil at the Value of a **p.E that is not nil. -/
theorem as_isNil_pp (a p : Addr) (W : World) (ha : W.cell? a = some (.pointer (some p))) :
    (ReflectliteValue.method (ReflectliteValue.valueError "reflectlite.Value.IsNil" 0) ReflectliteValue.isNil #[.agg #[.pointer (some ⟨10, 127, none⟩), .pointer (some a), .int .u64 150]]).run Tryz.prog W = .ok (.bool false) W := by
  rw [as_rlm]
  simp only [Sem.run_bind, as_parts_pp, Result.andThen]
  simp [ReflectliteValue.isNil, loadVar, isAgg, underlying, up127, ha, Result.andThen]

theorem as_methodElem (h : Value) (w : World) : (Go.method 338 164 (.agg #[h]) "Elem").run Tryz.prog w = .ok (193, .agg #[h]) w := by kernel_rfl
theorem as_methodImplements (h : Value) (w : World) : (Go.method 338 164 (.agg #[h]) "Implements").run Tryz.prog w = .ok (194, .agg #[h]) w := by kernel_rfl
theorem as_methodAssignableTo (h : Value) (w : World) : (Go.method 338 164 (.agg #[h]) "AssignableTo").run Tryz.prog w = .ok (191, .agg #[h]) w := by kernel_rfl
theorem as_elem_pp (w : World) : (ReflectliteType.method ReflectliteType.elem #[.agg #[.pointer (some ⟨10, 127, none⟩)]]).run Tryz.prog w = .ok (.iface 164 (.agg #[.pointer (some ⟨10, 96, none⟩)])) w := by kernel_rfl
theorem as_implements_p (w : World) : (ReflectliteType.relation "Implements" ReflectliteType.implements_ #[.agg #[.pointer (some ⟨10, 96, none⟩)], .iface 164 (.agg #[.pointer (some ⟨10, 54, none⟩)])]).run Tryz.prog w = .ok (.bool true) w := by kernel_rfl
theorem as_typeOf_p (v : Value) (w : World) : (ReflectliteType.typeOf #[.iface 96 v]).run Tryz.prog w = .ok (.iface 164 (.agg #[.pointer (some ⟨10, 96, none⟩)])) w := by kernel_rfl
theorem as_assignable_p (w : World) : (ReflectliteType.relation "AssignableTo" ReflectliteType.assignableTo #[.agg #[.pointer (some ⟨10, 96, none⟩)], .iface 164 (.agg #[.pointer (some ⟨10, 96, none⟩)])]).run Tryz.prog w = .ok (.bool true) w := by kernel_rfl
theorem as_valueOf_p (e : Addr) (w : World) : (ReflectliteValue.unpack (.iface 96 (.pointer (some e)))).run Tryz.prog w
    = .ok (.agg #[.pointer (some ⟨10, 96, none⟩), .pointer (some ⟨w.heap.size, 0, none⟩), .int .u64 150]) (w.alloc (.cells #[.pointer (some e)] 96)) := by kernel_rfl

theorem as_elemOf_pp (w : World) : (Rtype.elem? 127).run Tryz.prog w = .ok (some 96) w := by kernel_rfl
theorem as_mk_p (p : Addr) (w : World) : (ReflectliteValue.mk 96 p ReflectliteValue.flagAddr).run Tryz.prog w = .ok (.agg #[.pointer (some ⟨10, 96, none⟩), .pointer (some p), .int .u64 406]) w := by kernel_rfl
/-- (Value).Elem at the Value of a **p.E that is not nil: the Value of the *p.E variable that it points to, addressable. -/
theorem as_elemV_pp (a p : Addr) (W : World) (ha : W.cell? a = some (.pointer (some p))) :
    (ReflectliteValue.method (ReflectliteValue.valueError "reflectlite.Value.Elem" 0) ReflectliteValue.elem #[.agg #[.pointer (some ⟨10, 127, none⟩), .pointer (some a), .int .u64 150]]).run Tryz.prog W
      = .ok (.agg #[.pointer (some ⟨10, 96, none⟩), .pointer (some p), .int .u64 406]) W := by
  rw [as_rlm]
  simp only [Sem.run_bind, as_parts_pp, Result.andThen]
  simp [ReflectliteValue.elem, loadVar, isAgg, underlying, up127, ha, Result.andThen, as_elemOf_pp, as_mk_p]
theorem as_rls (v x : Value) : ReflectliteValue.set #[v, x] = (do
    let (some (dst, a, fl), some (src, b, _)) := (← ReflectliteValue.parts v, ← ReflectliteValue.parts x)
      | unsupported (.noEntry "extern/(internal/reflectlite.Value).Set.zeroValue")
    if fl / ReflectliteValue.flagAddr % 2 == 0 then unsupported (.noEntry "extern/(internal/reflectlite.Value).Set.unaddressable")
    let val ← loadVar src b
    if ← Rtype.directlyAssignable dst src then storeVar dst a val
    else if ← Rtype.implements dst src then
      if (← Rtype.kind src) == 20 then
        match val with
        | .nilIface => unsupported (.noEntry "extern/reflectlite: a nil value of one interface type handed on as a value of another")
        | _ => storeVar dst a val
      else storeVar dst a (.iface src val)
    else panicString ("reflectlite.Set: value of type " ++ (← Rtype.spelt src) ++ " is not assignable to type " ++ (← Rtype.spelt dst))
    pure (.tuple #[])) := rfl
theorem as_parts_pa (a : Addr) (w : World) : (ReflectliteValue.parts (.agg #[.pointer (some ⟨10, 96, none⟩), .pointer (some a), .int .u64 406])).run Tryz.prog w = .ok (some (96, a, 406)) w := by kernel_rfl
theorem as_parts_p (a : Addr) (w : World) : (ReflectliteValue.parts (.agg #[.pointer (some ⟨10, 96, none⟩), .pointer (some a), .int .u64 150])).run Tryz.prog w = .ok (some (96, a, 150)) w := by kernel_rfl
theorem as_direct_p (w : World) : (Rtype.directlyAssignable 96 96).run Tryz.prog w = .ok true w := by kernel_rfl
theorem as_size_p (w : World) : (sizeOf 96).run Tryz.prog w = .ok 1 w := by kernel_rfl
/-- (Value).Set: the *p.E variable at 'ta' gets what the Value's own variable 'b' holds. -/
theorem as_set_p (ta b e : Addr) (old : Value) (W : World) (hb : W.cell? b = some (.pointer (some e))) (ht : W.cell? ta = some old) (hf : W.frozen? ta = false) :
    (ReflectliteValue.set #[.agg #[.pointer (some ⟨10, 96, none⟩), .pointer (some ta), .int .u64 406], .agg #[.pointer (some ⟨10, 96, none⟩), .pointer (some b), .int .u64 150]]).run Tryz.prog W
      = .ok (.tuple #[]) (W.setCell ta (.pointer (some e))) := by
  rw [as_rls]
  simp only [Sem.run_bind, as_parts_pa, as_parts_p, Result.andThen]
  simp [ReflectliteValue.flagAddr, loadVar, isAgg, underlying, up96, hb, Result.andThen, as_direct_p, storeVar, Value.cells, storeCells, Addr.add]
  rw [run_store Tryz.prog W ta _ _ (by rfl)]
  simp [ht, hf]

set_option maxHeartbeats 4000000 in
theorem as_hit (e t : Addr) (old : Value) (w : World) (hg : w.cell? ⟨2, 0, none⟩ = some (.iface 164 (.agg #[.pointer (some ⟨10, 54, none⟩)]))) (ht0 : w.cell? t = some old) (hf0 : w.frozen? t = false) :
    Calls Tryz.prog 108 #[.iface 96 (.pointer (some e)), .iface 127 (.pointer (some t))] w fun ev w' => ev = .returned (.bool true) ∧ w' = ((((w.alloc (.cells #[.pointer (some t)] 127)).alloc (.cells #[.pointer (some ⟨10, 127, none⟩), .pointer (some ⟨w.heap.size, 0, none⟩), .int .u64 150] 139)).alloc (.cells #[.pointer (some ⟨10, 127, none⟩), .pointer (some ⟨w.heap.size, 0, none⟩), .int .u64 150] 139)).alloc (.cells #[.pointer (some e)] 96)).setCell t (.pointer (some e)) := by
  have h6 := @run_callFunc_extern Tryz.prog 126 _ (fun args => ReflectliteValue.unpack (args.getD 0 (.tuple #[]))) Tryz.func126 (by kernel_rfl) (by kernel_rfl) (by kernel_rfl) (by kernel_rfl)
  have h7 := @run_callFunc_extern Tryz.prog 127 _ (ReflectliteValue.methodAny (ReflectliteValue.valueError "reflectlite.Value.Type" 0) (fun t _ _ _ => ReflectliteType.toType t)) Tryz.func127 (by kernel_rfl) (by kernel_rfl) (by kernel_rfl) (by kernel_rfl)
  have h8 := @run_callFunc_extern Tryz.prog 128 _ (ReflectliteValue.method (ReflectliteValue.valueError "reflectlite.Value.IsNil" 0) ReflectliteValue.isNil) Tryz.func128 (by kernel_rfl) (by kernel_rfl) (by kernel_rfl) (by kernel_rfl)
  have h27 := @run_callFunc_extern Tryz.prog 179 _ (ReflectliteType.abiMethod fun t => do pure (.int .u8 (← Rtype.kind t))) Tryz.func179 (by kernel_rfl) (by kernel_rfl) (by kernel_rfl) (by kernel_rfl)
  have h37 := @run_callFunc_extern Tryz.prog 193 _ (ReflectliteType.method ReflectliteType.elem) Tryz.func193 (by kernel_rfl) (by kernel_rfl) (by kernel_rfl) (by kernel_rfl)
  have h38 := @run_callFunc_extern Tryz.prog 194 _ (ReflectliteType.relation "Implements" ReflectliteType.implements_) Tryz.func194 (by kernel_rfl) (by kernel_rfl) (by kernel_rfl) (by kernel_rfl)
  have h10 := @run_callFunc_extern Tryz.prog 142 _ ReflectliteType.typeOf Tryz.func142 (by kernel_rfl) (by kernel_rfl) (by kernel_rfl) (by kernel_rfl)
  have h35 := @run_callFunc_extern Tryz.prog 191 _ (ReflectliteType.relation "AssignableTo" ReflectliteType.assignableTo) Tryz.func191 (by kernel_rfl) (by kernel_rfl) (by kernel_rfl) (by kernel_rfl)
  have h11 := @run_callFunc_extern Tryz.prog 143 _ (ReflectliteValue.method (ReflectliteValue.valueError "reflectlite.Value.Elem" 0) ReflectliteValue.elem) Tryz.func143 (by kernel_rfl) (by kernel_rfl) (by kernel_rfl) (by kernel_rfl)
  have h12 := @run_callFunc_extern Tryz.prog 144 _ ReflectliteValue.set Tryz.func144 (by kernel_rfl) (by kernel_rfl) (by kernel_rfl) (by kernel_rfl)
  have tO := as_typeOf_p
  have mA := as_methodAssignableTo
  have a25 := as_assignable_p
  have v25 := as_valueOf_p
  have f6 := as_valueOf_pp
  have f7 := as_type_pp
  have mK := as_methodKind
  have mE := as_methodElem
  have mI := as_methodImplements
  have k27 := as_kind_pp
  have k25 := as_kind_p
  have e27 := as_elem_pp
  have i25 := as_implements_p
  have n8 := as_isNil_pp ⟨w.heap.size, 0, none⟩ t ((w.alloc (.cells #[.pointer (some t)] 127)).alloc (.cells #[.pointer (some ⟨10, 127, none⟩), .pointer (some ⟨w.heap.size, 0, none⟩), .int .u64 150] 139)) (by simp)
  have hlt : 2 < w.heap.size := by
    rcases Nat.lt_or_ge 2 w.heap.size with h | h
    · exact h
    · simp [World.cell?, Array.getElem?_eq_none h] at hg
  have hg2 : ((w.alloc (.cells #[.pointer (some t)] 127)).alloc (.cells #[.pointer (some ⟨10, 127, none⟩), .pointer (some ⟨w.heap.size, 0, none⟩), .int .u64 150] 139)).cell? ⟨2, 0, none⟩ = some (.iface 164 (.agg #[.pointer (some ⟨10, 54, none⟩)])) := by
    rw [World.cell?_alloc_lt _ _ ⟨2, 0, none⟩ (by simp; omega), World.cell?_alloc_lt _ _ ⟨2, 0, none⟩ hlt]; exact hg
  have htl : t.block < w.heap.size := by
    rcases Nat.lt_or_ge t.block w.heap.size with h | h
    · exact h
    · simp [World.cell?, Array.getElem?_eq_none h] at ht0
  have el := as_elemV_pp ⟨w.heap.size, 0, none⟩ t (((w.alloc (.cells #[.pointer (some t)] 127)).alloc (.cells #[.pointer (some ⟨10, 127, none⟩), .pointer (some ⟨w.heap.size, 0, none⟩), .int .u64 150] 139)).alloc (.cells #[.pointer (some ⟨10, 127, none⟩), .pointer (some ⟨w.heap.size, 0, none⟩), .int .u64 150] 139)) (by rw [World.cell?_alloc_lt _ _ ⟨w.heap.size, 0, none⟩ (by simp; omega)]; simp)
  have st := as_set_p t ⟨w.heap.size + 1 + 1 + 1, 0, none⟩ e old ((((w.alloc (.cells #[.pointer (some t)] 127)).alloc (.cells #[.pointer (some ⟨10, 127, none⟩), .pointer (some ⟨w.heap.size, 0, none⟩), .int .u64 150] 139)).alloc (.cells #[.pointer (some ⟨10, 127, none⟩), .pointer (some ⟨w.heap.size, 0, none⟩), .int .u64 150] 139)).alloc (.cells #[.pointer (some e)] 96))
    (by rw [World.cell?_alloc_at _ _ _ _ (by simp)]; rfl)
    (by rw [World.cell?_alloc_lt _ _ t (by simp; omega), World.cell?_alloc_lt _ _ t (by simp; omega), World.cell?_alloc_lt _ _ t (by simp; omega), World.cell?_alloc_lt _ _ t htl]; exact ht0)
    (by rw [World.frozen?_alloc_old _ _ t (by simp; omega), World.frozen?_alloc_old _ _ t (by simp; omega), World.frozen?_alloc_old _ _ t (by simp; omega), World.frozen?_alloc_old _ _ t (Nat.ne_of_lt htl)]; exact hf0)
  go_enter Tryz.func108, Tryz.ntmps108
  go_wp2
  refine wp_loop_rounds 1 ?_
  rw [rounds_succ]
  go_wp2
  go_ret
  exact ⟨rfl, rfl⟩
end Go.Proofs.YtneaancanfpdhaaGreatDoor
namespace Go.Proofs.YtneaancanfpdhaaGreatDoor
open Go Go.Vd Go.RowKit
attribute [local irreducible] Runs OpsR OpR FloatR AnyR AnyO
variable {gl : Nat → List D}

/-- what errors.errorType holds -/
def errTyD : List D := [.v (.iface 164 (.agg #[.pointer (some ⟨10, 54, none⟩)]))]

theorem as_spec (hgl : gl 2 = errTyD) (l : List D) :
    Tri Tryz.prog gl 108 [.cells [.d (.v (.pointer none))] 96] [.d (.ifc 96 (.cp l)), .ifc 127 (.blk 0 0)] fun out ob' => out = .ret (.d (.v (.bool true))) ∧ ob' = [.cells [.d (.cp l)] 96] := by
  intro g w vs hs hd
  have hr := rel_begin (n := 2) (by simp) hs hd
  obtain ⟨x, l1, rfl, ⟨y, rfl, eb, eo, rfl, hc⟩, z, l2, rfl, ⟨u, rfl, tb, htb, rfl⟩, rfl⟩ := hd
  obtain ⟨us, hh, ⟨p, l3, rfl, hp, rfl⟩, hmn⟩ := hs.obs 0 _ _ rfl htb
  have hp' : p = .pointer none := hp
  subst hp'
  have hg := hs.glob 2
  rw [hgl] at hg
  obtain ⟨⟨gx, hg1, hg2⟩, _⟩ := hg
  have hg3 : gx = .iface 164 (.agg #[.pointer (some ⟨10, 54, none⟩)]) := hg2
  subst hg3
  have hcell := (hs.sat _ _ _ hg1).1
  have hlt : tb < w.heap.size := (Array.getElem?_eq_some_iff.1 hh).1
  refine (as_hit ⟨eb, eo, none⟩ ⟨tb, 0, none⟩ (.pointer none) w hcell (by simp [World.cell?, hh]) (by simp [World.frozen?, hh])).mono ?_
  rintro e w' ⟨rfl, rfl⟩
  have hb : ∀ (W : World) (o : Obj), tb < W.heap.size → W.heap[tb]? = some (.cells #[.pointer none] 96 (0, 0)) → (W.alloc o).heap[tb]? = some (.cells #[.pointer none] 96 (0, 0)) ∧ tb < (W.alloc o).heap.size := fun W o h1 h2 => by
    refine ⟨?_, by simp; omega⟩
    rw [Below.heap_alloc W o tb h1]; exact h2
  obtain ⟨a1, b1⟩ := hb w (.cells #[.pointer (some ⟨tb, 0, none⟩)] 127) hlt hh
  obtain ⟨a2, b2⟩ := hb _ (.cells #[.pointer (some ⟨10, 127, none⟩), .pointer (some ⟨w.heap.size, 0, none⟩), .int .u64 150] 139) b1 a1
  obtain ⟨a3, b3⟩ := hb _ (.cells #[.pointer (some ⟨10, 127, none⟩), .pointer (some ⟨w.heap.size, 0, none⟩), .int .u64 150] 139) b2 a2
  obtain ⟨a4, b4⟩ := hb _ (.cells #[.pointer (some ⟨eb, eo, none⟩)] 96) b3 a3
  have hal := ((((Fr.refl (fun c => c = tb) w).alloc (.cells #[.pointer (some ⟨tb, 0, none⟩)] 127)).alloc (.cells #[.pointer (some ⟨10, 127, none⟩), .pointer (some ⟨w.heap.size, 0, none⟩), .int .u64 150] 139)).alloc (.cells #[.pointer (some ⟨10, 127, none⟩), .pointer (some ⟨w.heap.size, 0, none⟩), .int .u64 150] 139)).alloc (.cells #[.pointer (some ⟨eb, eo, none⟩)] 96)
  generalize hW : (((w.alloc (.cells #[.pointer (some ⟨tb, 0, none⟩)] 127)).alloc (.cells #[.pointer (some ⟨10, 127, none⟩), .pointer (some ⟨w.heap.size, 0, none⟩), .int .u64 150] 139)).alloc (.cells #[.pointer (some ⟨10, 127, none⟩), .pointer (some ⟨w.heap.size, 0, none⟩), .int .u64 150] 139)).alloc (.cells #[.pointer (some ⟨eb, eo, none⟩)] 96) = W at *
  have hset : (W.setCell ⟨tb, 0, none⟩ (.pointer (some ⟨eb, eo, none⟩))).heap[tb]? = some (.cells #[.pointer (some ⟨eb, eo, none⟩)] 96 (0, 0)) := by
    simp [World.setCell, Array.getElem?_modify, a4]
  have hfr : Fr (fun c => c = tb) w (W.setCell ⟨tb, 0, none⟩ (.pointer (some ⟨eb, eo, none⟩))) := by
    exact hal.trans ⟨rfl, rfl, rfl, by simp [World.setCell], fun c hc hn => Below.heap_setCell _ _ _ _ hn⟩
  have h1 := (hr.upd1 (i := 0) (o' := .cells [.d (.cp l)] 96) rfl htb rfl hfr ⟨_, hset, ⟨_, _, rfl, ⟨eb, eo, rfl, hc⟩, rfl⟩, hmn⟩ (.inl rfl) (fun j f dn cur h => by match j, h with | j + 1, h => simp at h) (fun k f dn cur h => by cases h) hmn).1
  exact ⟨g, _, h1.store, h1.stp, by simp, rfl, .d (.v (.bool true)), rfl, rfl, rfl⟩

theorem code_nil : TriD Tryz.prog gl 75 [.v .nilIface] (· = .tup [.v (.int .i64 0), .v (.int .i64 0)]) := by
  refine triD_of_runs Tryz.func75 rfl Tryz.ntmps75 (rs := [.tmp 2, .tmp 3]) rfl rfl rfl ?_
  refine sr ?_; refine o1 (asg ?_); refine o1 (asg ?_); refine nx ?_; refine runs_seq ?_; refine sr ?_; refine o1 (mv ?_); refine o1 (f_ieql_nil ii54 ?_); refine nx ?_; refine cdf (fun h1 => ?_) (fun h1 => ?_)
  · simp only [nrm, Int.reduceEq, Int.reduceNe, Int.reduceLT, Int.reduceLE] at h1
  (try simp only [nrm, Int.reduceEq, Int.reduceNe, Int.reduceLT, Int.reduceLE] at h1); refine kp [] ?_; refine sr ?_; refine o1 (asg ?_); refine o1 (asg ?_); refine nx ?_; refine runs_ret ?_; refine seq_ret ?_; refine fin_ret ?_
  refine fin_d2 rfl rfl rfl ?_
  rfl
theorem code_flt (hgl : gl 2 = errTyD) (c a : Int) : TriD Tryz.prog gl 75 [fltD c a] (· = .tup [.v (.int .i64 c), .v (.int .i64 a)]) := by
  unfold fltD
  refine triD_of_runs Tryz.func75 rfl Tryz.ntmps75 (rs := [.tmp 2, .tmp 3]) rfl rfl rfl ?_
  refine sr ?_; refine o1 (asg ?_); refine o1 (asg ?_); refine nx ?_; refine runs_seq ?_; refine sr ?_; refine o1 (mv ?_); refine o1 (f_ieql_d ii54 ?_); refine nx ?_; refine cd (fun h1 => ?_) (fun h1 => ?_)
  · simp only [nrm, Int.reduceEq, Int.reduceNe, Int.reduceLT, Int.reduceLE] at h1
  (try simp only [nrm, Int.reduceEq, Int.reduceNe, Int.reduceLT, Int.reduceLE] at h1); refine runs_skip ?_; refine seq_normal ?_; refine kp [0] ?_; refine sr ?_
  refine oc (T := fun _ => False) (alc ti96 ?_ (hl := by simp only [List.length_cons, List.length_nil, Nat.reduceAdd]; rfl)); refine nx ?_; refine runs_seq ?_; refine sr ?_; refine o1 (mv ?_); refine o1 (f_iface ?_)
  refine oc (ck ca108 rfl rfl (as_spec hgl [.v (.int .i64 c), .v (.int .i64 a)]) [0] rfl (boc .nil) (fir (fir .nil)) ?_); refine o1 (f_not ?_); refine o1 (mv ?_)
  apply ops_or (yt := 13) (d := 11) 2 rfl rfl rfl (.none rfl) rfl rfl
  case h1 =>
    intro hb8 hK
    have hc := hb8; (try simp only [nrm, Int.reduceEq, Int.reduceNe, Int.reduceLT, Int.reduceLE] at hc)
    refine gye ?_ (hbw := by exact hb8); refine o1 (ldb ti96 ?_); refine gye ?_ (hbw := by exact hb8); refine o1 (f_peql_cp up96 ?_); exact hK [_, _] rfl rfl
  case h2 =>
    intro hb8 hK; refine gno ?_ (hbw := by exact hb8); refine gno ?_ (hbw := by exact hb8); exact hK [_, _] rfl
  refine nx ?_; refine cd (fun h4 => ?_) (fun h4 => ?_)
  · simp only [nrm, Int.reduceEq, Int.reduceNe, Int.reduceLT, Int.reduceLE] at h4
  (try simp only [nrm, Int.reduceEq, Int.reduceNe, Int.reduceLT, Int.reduceLE] at h4); refine runs_skip ?_; refine seq_normal ?_; refine runs_seq ?_; refine kp [4] ?_; refine a_start ?_ (hm := by exact mixed)
  refine A1 0 rfl (ldb ti96 ⟨_, rfl, ?_⟩); refine A1 1 rfl (ncc ⟨_, rfl, ?_⟩); refine A1 2 rfl (fdc ti33 ⟨_, rfl, ?_⟩); refine A1 3 rfl (ldc ti3 ⟨_, rfl, ?_⟩); refine A1 4 rfl (ldb ti96 ⟨_, rfl, ?_⟩); refine A1 5 rfl (ncc ⟨_, rfl, ?_⟩)
  refine A1 6 rfl (fdc ti33 ⟨_, rfl, ?_⟩); refine A1 7 rfl (ldc ti3 ⟨_, rfl, ?_⟩); refine A1 8 rfl (asg ⟨_, rfl, ?_⟩); refine A1 9 rfl (asg ⟨_, rfl, ?_⟩); refine a_end ?_; refine seq_normal ?_; refine runs_ret ?_; refine fin_ret ?_
  refine fin_d2 rfl rfl rfl ?_
  rfl
theorem faulty_spec (hgl : gl 2 = errTyD) (c a : Int) : TriD Tryz.prog gl 34 [errD c a, .agg [.v (.int .i64 c), .v (.int .i64 a)]] (· = .v (.bool true)) := by
  by_cases hc : c = 0
  · subst hc
    rw [errD_zero]
    refine triD_of_runs Tryz.func34 rfl Tryz.ntmps34 (rs := [.tmp 4]) rfl rfl rfl ?_
    refine sr ?_; refine oc (T := fun _ => False) (bx ti33 ?_ (hl := by simp only [List.length_cons, List.length_nil, Nat.reduceAdd]; rfl)); refine o1 (asg ?_); refine nx ?_; refine sr ?_; refine o1 (mv ?_)
    refine oc (cv ca75 rfl rfl (code_nil) (fir .nil) ?_); refine o1 (mv ?_); refine o1 (ex2 ?_); refine o1 (ex2 ?_); refine o1 (asg ?_); refine o1 (asg ?_); refine nx ?_; refine kp [6, 5, 3] ?_; refine sr ?_; refine o1 (mv ?_)
    refine o1 (fdb ti33 ?_); refine o1 (ldb ti3 ?_); refine o1 (ieq ?_); refine o1 (mv ?_); refine ops_set 16 true rfl (by simp) ?_; refine gye ?_ (hbw := by exact rfl); refine o1 (mv ?_); refine gye ?_ (hbw := by exact rfl); refine o1 (ieq ?_)
    refine gye ?_ (hbw := by exact rfl); refine o1 (mv ?_); refine ops_set 19 true rfl (by simp) ?_; refine gno ?_ (hbw := by exact rfl); refine gno ?_ (hbw := by exact rfl); refine gno ?_ (hbw := by exact rfl)
    refine gno ?_ (hbw := by exact rfl); refine gye ?_ (hbw := by exact rfl); refine o1 (f_pick_t ?_); refine o1 (f_pick_t ?_); refine o1 (asg ?_); refine nx ?_; refine runs_ret ?_; refine fin_ret ?_; refine fin_d1 rfl rfl ?_
    rfl
  · rw [errD_ne hc]
    have hcf := code_flt (gl := gl) hgl c a
    generalize fltD c a = fd at hcf ⊢
    refine triD_of_runs Tryz.func34 rfl Tryz.ntmps34 (rs := [.tmp 4]) rfl rfl rfl ?_
    refine sr ?_; refine oc (T := fun _ => False) (bx ti33 ?_ (hl := by simp only [List.length_cons, List.length_nil, Nat.reduceAdd]; rfl)); refine o1 (asg ?_); refine nx ?_; refine sr ?_; refine o1 (mv ?_)
    refine oc (cv ca75 rfl rfl (hcf) (fir .nil) ?_); refine o1 (mv ?_); refine o1 (ex2 ?_); refine o1 (ex2 ?_); refine o1 (asg ?_); refine o1 (asg ?_); refine nx ?_; refine kp [6, 5, 3] ?_; refine sr ?_; refine o1 (mv ?_)
    refine o1 (fdb ti33 ?_); refine o1 (ldb ti3 ?_); refine o1 (ieq ?_); refine o1 (mv ?_); refine ops_set 16 true rfl (by simp) ?_; refine gye ?_ (hbw := by exact rfl); refine o1 (mv ?_); refine gye ?_ (hbw := by exact rfl); refine o1 (ieq ?_)
    refine gye ?_ (hbw := by exact rfl); refine o1 (mv ?_); refine ops_set 19 false rfl (by simpa using hc) ?_; refine gye ?_ (hbw := by exact rfl); refine o1 (mv ?_); refine gye ?_ (hbw := by exact rfl); refine o1 (fdb ti33 ?_)
    refine gye ?_ (hbw := by exact rfl); refine o1 (ldb ti3 ?_); refine gye ?_ (hbw := by exact rfl); refine o1 (ieq ?_); refine gye ?_ (hbw := by exact rfl); refine o1 (f_pick_f ?_); refine o1 (f_pick_t ?_); refine o1 (asg ?_); refine nx ?_
    refine runs_ret ?_; refine fin_ret ?_; refine fin_d1 rfl rfl ?_
    simp

end Go.Proofs.YtneaancanfpdhaaGreatDoor
namespace Go.Proofs.YtneaancanfpdhaaGreatDoor
open Go Go.Vd Go.RowKit
attribute [local irreducible] Runs OpsR OpR FloatR AnyR AnyO
variable {g gl : Nat → List D}

theorem level_size {s : ByteArray} (n : Nat) {r : RS} (hp : r.p ≤ s.size) : (levelR n s r).1.size + 20 * r.p ≤ 10 + 20 * (levelR n s r).2.p := by
  obtain ⟨x, hx, _, hw⟩ := levelR_lev n hp
  rw [hx, x.size_toLvl]
  have := x.size_le_weight
  omega
theorem levels_size {s : ByteArray} : ∀ (n : Nat) {r : RS}, r.p ≤ s.size → sizes (levelsR n s r).1 + 30 * r.p ≤ 10 + 30 * (levelsR n s r).2.p := by
  intro n
  induction n with
  | zero => intro r hp; simp only [levelsR, sizes]; omega
  | succ n ih =>
    intro r hp
    simp only [levelsR]
    split
    · rename_i hc
      have h1 := levelR_le (s := s) (s.size + 1) hp
      have h2 := level_size (s := s) (s.size + 1) hp
      have h3 := ih h1.2
      simp only [sizes]
      cases hf : (levelR (s.size + 1) s r).2.f with
      | none =>
        have h4 := level_prog hp hc.1 hf
        omega
      | some a =>
        have h5 : levelsR n s (levelR (s.size + 1) s r).2 = ([], (levelR (s.size + 1) s r).2) := by
          cases n with
          | zero => rfl
          | succ n => simp only [levelsR]; rw [if_neg (by rintro ⟨e, _⟩; rw [hf] at e; cases e)]
        rw [h5]
        simp only [sizes]
        omega
    · simp only [sizes]; omega
theorem head_size {s : ByteArray} (k : Nat) {r : RS} (hp : r.p ≤ s.size) : sizes (headR s k r).2.1 + 30 * r.p ≤ 10 + 30 * (headR s k r).2.2.p := by
  unfold headR
  split
  · have h1 := levelR_le (s := s) (s.size + 1) hp
    have h2 := level_size (s := s) (s.size + 1) hp
    simp only [sizes]; omega
  · split
    · have h1 := nameR_le (s := s) hp
      have h2 := levels_size (s.size + 2) h1.2
      simp only; omega
    · simp only [sizes]; omega
theorem sizesT_app (l : List Trm) (x : Trm) : sizesT (l ++ [x]) = sizesT l + x.size := by
  induction l with
  | nil => simp [sizesT]
  | cons a r ih => simp [sizesT, ih]; omega
theorem term_size {s : ByteArray} : ∀ (n : Nat) (r : RS), r.p ≤ s.size → (termR n s r).1.size + 30 * r.p ≤ 1 + 30 * (termR n s r).2.p := by
  have hz : zeroT.size = 1 := rfl
  intro n
  induction n with
  | zero => intro r hp; simp only [termR, hz]; omega
  | succ n ih =>
    have hpart : ∀ (i : Nat) {r : RS}, r.p ≤ s.size → sizesT (partsR (termR n s) i r).1 + 30 * r.p ≤ i + 30 * (partsR (termR n s) i r).2.p := by
      intro i
      induction i with
      | zero => intro r hp; simp only [partsR, sizesT]; omega
      | succ i ihi =>
        intro r hp
        have h1 := ihi hp
        have h2 := partsR_le (s := s) (f := termR n s) (fun r hr => termR_le n r hr) i hp
        have h3 := ih _ h2.2
        simp only [partsR, sizesT_app]
        omega
    intro r hp
    obtain ⟨p, f⟩ := r
    simp only at hp
    cases f with
    | some a => simp only [termR, hz]; omega
    | none =>
      have h1 := nextR_le (s := s) (r := ⟨p, none⟩) hp
      simp only at h1 ⊢
      by_cases c1 : headT (tokR s p).1
      · by_cases c2 : (tokR s p).1 = ⟨#[40]⟩
        · by_cases c3 : kindT (tokR s (nextR s ⟨p, none⟩).2.p).1 = 0
          · rw [termR_kind c2 c3, RS.fail_p]; show zeroT.size + 30 * p ≤ _; rw [hz]; exact Nat.add_le_add_left (Nat.mul_le_mul_left 30 h1.1) 1
          · have hl1 : p < (nextR s ⟨p, none⟩).2.p := by
              have h7 := tokR_at (s := s) hp
              rw [nextR_ok (by rw [c2]; decide), c2]
              have : (ByteArray.mk #[40]).size = 1 := rfl
              simp only; omega
            have h2 := nextR_le (s := s) (r := (nextR s ⟨p, none⟩).2) h1.2
            have h3 := headR_le (s := s) (kindT (tokR s (nextR s ⟨p, none⟩).2.p).1) h2.2
            have h4 := head_size (s := s) (kindT (tokR s (nextR s ⟨p, none⟩).2.p).1) h2.2
            have h5 := partsR_le (s := s) (f := termR n s) (fun r hr => termR_le n r hr) (partsOf (kindT (tokR s (nextR s ⟨p, none⟩).2.p).1)) h3.2
            have h6 := hpart (partsOf (kindT (tokR s (nextR s ⟨p, none⟩).2.p).1)) h3.2
            have h7 := takeR_le (s := s) (w := ⟨#[41]⟩) h5.2
            have h8 := partsOf_le (kindT (tokR s (nextR s ⟨p, none⟩).2.p).1)
            rw [termR_node (nm := (headR s (kindT (tokR s (nextR s ⟨p, none⟩).2.p).1) (nextR s (nextR s ⟨p, none⟩).2).2).1) (L := (headR s (kindT (tokR s (nextR s ⟨p, none⟩).2.p).1) (nextR s (nextR s ⟨p, none⟩).2).2).2.1) (r3 := (headR s (kindT (tokR s (nextR s ⟨p, none⟩).2.p).1) (nextR s (nextR s ⟨p, none⟩).2).2).2.2) c2 rfl c3 rfl]
            simp only [Trm.size]
            omega
        · rw [termR_num c1 c2]; simp only [Trm.size, sizes, sizesT]; have hpp : (RS.mk p none).p = p := rfl; omega
      · rw [termR_bad c1, RS.fail_p]; show zeroT.size + 30 * p ≤ 1 + 30 * p; rw [hz]; exact Nat.le_refl _
theorem parseT_size (s : ByteArray) : (parseT s).1.size ≤ 1099511627776 := by
  have hz : zeroT.size = 1 := rfl
  unfold parseT
  split
  · simp only [hz]; omega
  · have h1 := term_size (s := s) (s.size + 1) ⟨0, none⟩ (Nat.zero_le _)
    have h2 := termR_le (s := s) (s.size + 1) ⟨0, none⟩ (Nat.zero_le _)
    simp only at h1 h2 ⊢
    split
    · simp only; omega
    · simp only [hz]; omega

theorem termParsed_spec (hgl : glT g 2 = errTyD) (s : ByteArray) : TriD Tryz.prog (glT g) 7 [.v (.string s)] (· = .v (.bool true)) := by
  have h1 := tparse_spec (g := g) s
  have h2 := parseTerm_spec (g := g) s
  have h3 := faulty_spec (gl := glT g) hgl (parseT s).2.1 (parseT s).2.2
  generalize errD (parseT s).2.1 (parseT s).2.2 = ed at h1 h3
  generalize (parseT s).2.1 = c at h1 h2 h3
  generalize (parseT s).2.2 = a at h1 h2 h3
  have sx := parseT_size s
  have hsame := Trm.same_self (parseT s).1
  obtain ⟨ka, ma, na, la, aa, ea⟩ := Trm.case (parseT s).1
  rw [ea] at h1 h2 hsame sx
  refine triD_of_runs Tryz.func7 rfl Tryz.ntmps7 (rs := [.tmp 2]) rfl rfl rfl ?_
  refine sr ?_; refine o1 (asg ?_); refine nx ?_; refine sr ?_; refine o1 (mv ?_); refine oc (cv ca33 rfl rfl (h1) (fir .nil) ?_); refine o1 (mv ?_); refine o1 (ex2 ?_); refine o1 (ex2 ?_)
  refine oc (T := fun _ => False) (alc ti31 ?_ (hl := by simp only [List.length_cons, List.length_nil, Nat.reduceAdd]; rfl)); refine oc (sto ti31 ?_); refine o1 (asg ?_); refine nx ?_; refine kp [4, 3, 0] ?_; refine sr ?_; refine o1 (mv ?_)
  refine oc (cv ca9 rfl rfl (h2) (fir .nil) ?_); refine o1 (mv ?_); refine o1 (ex2 ?_); refine o1 (ex2 ?_); refine oc (T := fun _ => False) (alc ti31 ?_ (hl := by simp only [List.length_cons, List.length_nil, Nat.reduceAdd]; rfl))
  refine oc (T := fun _ => False) (alc ti33 ?_ (hl := by simp only [List.length_cons, List.length_nil, Nat.reduceAdd]; rfl)); refine oc (sto ti31 ?_); refine oc (sto ti33 ?_); refine nx ?_; refine kp [6, 5, 4, 3] ?_; refine sr ?_
  refine o1 (mv ?_); refine o1 (ldb ti33 ?_); refine oc (cv ca34 rfl rfl (h3) (fir (fid .nil)) ?_); refine o1 (asg ?_); refine nx ?_; refine kp [7, 5, 3] ?_; refine sr ?_; refine o1 (ldb ti31 ?_); refine o1 (ldb ti31 ?_)
  refine oc (T := fun _ => False) (op_call ca17 rfl rfl rfl rfl (sameTerm_spec ka ma na la aa ka ma na la aa sx) (fid (fid .nil)) (fun d hd => ?_))
  rw [hsame] at hd; obtain rfl := hd
  refine o1 (asg ?_); refine nx ?_; refine kp [8, 7] ?_; refine sr ?_; refine o1 (mv ?_); refine o1 (mv ?_)
  apply ops_and (yt := 27) (d := 26) 1 rfl rfl rfl (.none rfl) rfl rfl
  case h1 =>
    intro hb3 hK
    have hc := hb3; (try simp only [nrm, Int.reduceEq, Int.reduceNe, Int.reduceLT, Int.reduceLE] at hc)
    refine gye ?_ (hbw := by exact hb3); refine o1 (mv ?_); exact hK [_] rfl rfl
  case h2 =>
    intro hb3 hK; refine gno ?_ (hbw := by exact hb3); exact hK [_] rfl
  refine o1 (asg ?_); refine nx ?_; refine runs_ret ?_; refine fin_ret ?_; refine fin_d1 rfl rfl ?_
  rfl

theorem tparses_spec (hgl : glT g 2 = errTyD) (l : List Step) : TriD Tryz.prog (glT g) 4 [.sl 6 (steps l)] (· = .v (.bool true)) := by
  have hlen := steps_len l
  refine triD_of_runs Tryz.func4 rfl Tryz.ntmps4 (rs := [.tmp 2]) rfl rfl rfl ?_
  refine sr ?_; refine o1 (asg ?_); refine nx ?_; refine runs_seq ?_; refine sr ?_; refine o1 (asg ?_); refine nx ?_; refine runs_block ?_; refine kp [3, 0] ?_
  apply runs_loop_c (ι := Nat) (fun i => [(3, int i)]) [0] (fun i => i ≤ l.length ∧ i ≤ 1152921504606846976) (fun i => l.length - i) (0)
  case hk => exact rfl
  case hI =>
    exact ⟨Nat.zero_le _, by omega⟩
  case hm =>
    refine mo ?_ (sly (sly slz)); exact boz
  case h =>
    rintro i hinv
    try dsimp only at hinv
    refine kp [3, 0] ?_; refine runs_seq ?_; refine sr ?_; refine o1 (mv ?_); refine o1 (mv ?_); refine o1 (le1 us22 ?_); refine o1 (ilt ?_); refine o1 (mv ?_)
    apply ops_and (yt := 12) (d := 10) 2 rfl rfl rfl (.none rfl) rfl rfl
    case h1 =>
      intro hb9 hK
      have hc := hb9; (try simp only [nrm, Int.reduceEq, Int.reduceNe, Int.reduceLT, Int.reduceLE] at hc)
      refine gye ?_ (hbw := by exact hb9); refine o1 (mv ?_); refine gye ?_ (hbw := by exact hb9); refine o1 (ilt ?_); exact hK [_, _] rfl rfl
    case h2 =>
      intro hb9 hK; refine gno ?_ (hbw := by exact hb9); refine gno ?_ (hbw := by exact hb9); exact hK [_, _] rfl
    refine nx ?_; refine cdf (fun h2 => ?_) (fun h2 => ?_)
    · (try simp only [nrm, Int.reduceEq, Int.reduceNe, Int.reduceLT, Int.reduceLE] at h2)
      refine runs_exit ?_; refine seq_exit ?_; refine seq_exit ?_; refine inb_exit ?_; refine seq_normal ?_; refine kp [] ?_; refine sr ?_; refine o1 (asg ?_); refine nx ?_; refine runs_ret ?_; refine fin_ret ?_; refine fin_d1 rfl rfl ?_
      rfl
    (try simp only [nrm, Int.reduceEq, Int.reduceNe, Int.reduceLT, Int.reduceLE] at h2); refine runs_skip ?_; refine seq_normal ?_; refine runs_seq ?_; refine runs_block ?_; refine runs_seq ?_; refine kp [3, 0] ?_
    have hin : i < l.length := by omega
    refine runs_region ?_; refine o1 (mv ?_); refine o1 (mv ?_); refine o1 (ixs us22 te22 ?_ (he := by exact (step_at hin))); refine o1 (fdc ti25 ?_); refine o1 (ldc ti9 ?_); refine oc (cv ca7 rfl rfl (termParsed_spec hgl l[i].s) (fir .nil) ?_)
    refine o1 (asg ?_); refine nx ?_; refine kp [4, 3, 0] ?_; refine sr ?_; refine o1 (mv ?_); refine o1 (mv ?_); refine o1 (ixs us22 te22 ?_ (he := by exact (step_at hin))); refine o1 (fdc ti25 ?_); refine o1 (ldc ti9 ?_)
    refine oc (cv ca7 rfl rfl (termParsed_spec hgl l[i].t) (fir .nil) ?_); refine o1 (asg ?_); refine nx ?_; refine kp [5, 4, 3, 0] ?_; refine sr ?_; refine o1 (mv ?_); refine o1 (f_not ?_); refine o1 (mv ?_)
    apply ops_or (yt := 32) (d := 30) 2 rfl rfl rfl (.none rfl) rfl rfl
    case h1 =>
      intro hb4 hK
      have hc := hb4; (try simp only [nrm, Int.reduceEq, Int.reduceNe, Int.reduceLT, Int.reduceLE] at hc)
      refine gye ?_ (hbw := by exact hb4); refine o1 (mv ?_); refine gye ?_ (hbw := by exact hb4); refine o1 (f_not ?_); exact hK [_, _] rfl rfl
    case h2 =>
      intro hb4 hK; refine gno ?_ (hbw := by exact hb4); refine gno ?_ (hbw := by exact hb4); exact hK [_, _] rfl
    refine nx ?_; refine cd (fun h6 => ?_) (fun h6 => ?_)
    · simp only [nrm, Int.reduceEq, Int.reduceNe, Int.reduceLT, Int.reduceLE] at h6
    (try simp only [nrm, Int.reduceEq, Int.reduceNe, Int.reduceLT, Int.reduceLE] at h6); refine runs_skip ?_; refine inb_normal ?_; refine seq_normal ?_; refine kp [3, 0] ?_; refine runs_region ?_; refine o1 (mv ?_); refine o1 (iad ?_)
    refine o1 (asg ?_); refine ops_nil ?_; refine seq_back ?_; refine back_i (i + 1) rfl ?_ ?_
    · exact ⟨⟨by omega, by omega⟩, by omega⟩
    · refine mo ?_ (sly (sly slz))
      exact boz
end Go.Proofs.YtneaancanfpdhaaGreatDoor
namespace Go.Proofs.YtneaancanfpdhaaGreatDoor
open Go Go.Vd Go.RowKit
attribute [local irreducible] Runs OpsR OpR FloatR AnyR AnyO
variable {g gl : Nat → List D}

/-- the text of a file -/
def wrF : List Dec → ByteArray
  | [] => .empty
  | d :: r => wrD d ++ ⟨#[10]⟩ ++ wrF r
def wtF : List Dec → Nat
  | [] => 0
  | d :: r => 1 + wtD d + wtF r
def okF (l : List Dec) : Prop := ∀ d ∈ l, okD d
theorem wrF_append (l m : List Dec) : wrF (l ++ m) = wrF l ++ wrF m := by
  induction l with
  | nil => simp [wrF]
  | cons a r ih => simp only [List.cons_append, wrF, ih, ByteArray.append_assoc]
theorem wrF_take {l : List Dec} {i : Nat} {a : Dec} (h : l[i]? = some a) : wrF (l.take (i + 1)) = wrF (l.take i) ++ (wrD a ++ ⟨#[10]⟩) := by
  rw [List.take_add_one, h]; simp [wrF_append, wrF, ByteArray.append_assoc]
theorem wtF_append (l m : List Dec) : wtF (l ++ m) = wtF l + wtF m := by
  induction l with
  | nil => simp [wtF]
  | cons a r ih => simp [wtF, ih]; omega
theorem wrF_size {l : List Dec} (h : okF l) : (wrF l).size ≤ wtF l := by
  induction l with
  | nil => simp [wrF]
  | cons d r ih =>
    have h1 := wrD_size (h d (by simp))
    have h2 := ih fun x hx => h x (by simp [hx])
    simp only [wrF, wtF, ByteArray.size_append, size_mk, List.size_toArray, List.length_cons, List.length_nil]; omega
theorem wrF_take_le {l : List Dec} (h : okF l) (i : Nat) : (wrF (l.take i)).size ≤ wtF l := by
  have h1 := wrF_size (l := l.take i) fun d hd => h d (List.mem_of_mem_take hd)
  have h2 : wtF l = wtF (l.take i) + wtF (l.drop i) := by rw [← wtF_append, List.take_append_drop]
  omega
theorem wtF_get : ∀ {l : List Dec} {i : Nat} {d : Dec}, l[i]? = some d → wtD d ≤ wtF l
  | [], i, d, h => by simp at h
  | a :: r, 0, d, h => by simp at h; subst h; simp [wtF]; omega
  | a :: r, i + 1, d, h => by simp at h; have := wtF_get h; simp [wtF]; omega
theorem wtF_len (l : List Dec) : l.length ≤ wtF l := by
  induction l with
  | nil => simp
  | cons a r ih => simp [wtF]; omega

theorem printFile_spec (ds : List Dec) (ho : okF ds) (hb : wtF ds ≤ 1099511627776) : TriD Tryz.prog (glT g) 38 [.sl 15 (decs ds)] (· = .v (.string (wrF ds))) := by
  have hlc := decs_len ds
  have hlf := wtF_len ds
  refine triD_of_runs Tryz.func38 rfl Tryz.ntmps38 (rs := [.tmp 2]) rfl rfl rfl ?_
  refine sr ?_; refine o1 (asg ?_); refine nx ?_; refine sr ?_; refine o1 (asg ?_); refine nx ?_; refine runs_seq ?_; refine sr ?_; refine o1 (asg ?_); refine nx ?_; refine runs_block ?_; refine kp [4, 3, 0] ?_
  apply runs_loop_c (ι := Nat) (fun i => [(4, int i), (3, .d (.v (.string (wrF (ds.take i)))))]) [0] (fun i => i ≤ ds.length) (fun i => ds.length - i) (0)
  case hk => exact rfl
  case hI =>
    exact Nat.zero_le _
  case hm =>
    refine mo ?_ (sly (sly (sly slz))); exact boz
  case h =>
    rintro i hinv
    try dsimp only at hinv
    refine kp [4, 3, 0] ?_; refine runs_seq ?_; refine sr ?_; refine o1 (mv ?_); refine o1 (mv ?_); refine o1 (le1 us58 ?_); refine o1 (ilt ?_); refine nx ?_; refine cdf (fun h3 => ?_) (fun h3 => ?_)
    · (try simp only [nrm, Int.reduceEq, Int.reduceNe, Int.reduceLT, Int.reduceLE] at h3)
      refine runs_exit ?_; refine seq_exit ?_; refine seq_exit ?_; refine inb_exit ?_; refine seq_normal ?_; refine runs_seq ?_; refine kp [3] ?_; obtain rfl : i = ds.length := (by omega)
      rw [List.take_length]
      refine runs_region ?_; refine o1 (mv ?_); refine o1 (asg ?_); refine nx ?_; refine runs_ret ?_; refine fin_ret ?_; refine fin_d1 rfl rfl ?_
      rfl
    (try simp only [nrm, Int.reduceEq, Int.reduceNe, Int.reduceLT, Int.reduceLE] at h3); refine runs_skip ?_; refine seq_normal ?_; refine runs_seq ?_; refine runs_block ?_; refine kp [4, 3, 0] ?_
    obtain ⟨k, nm, ps, k1, n1, s1, l1, a1, k2, n2, s2, l2, a2, a, cs, hget⟩ := dec_get (show i < ds.length by omega)
    have hod := ho _ (List.mem_of_getElem? hget)
    have hwd := wtF_get hget
    have hws := wrD_size hod
    have hle := wrF_take_le ho i
    refine runs_region ?_; refine o1 (mv ?_); refine o1 (mv ?_); refine o1 (mv ?_); refine o1 (ixs us58 te58 ?_ (he := by exact (dec_at hget))); refine o1 (ldc ti67 ?_)
    refine oc (cv ca41 rfl rfl (printDecl_spec k nm ps k1 n1 s1 l1 a1 k2 n2 s2 l2 a2 a cs hod (by omega)) (fid .nil) ?_)
    refine o1 (f_sadd ?_ (hb := by (try simp only [ByteArray.size_append, size_mk, List.size_toArray, List.length_cons, List.length_nil]); omega))
    refine o1 (f_sadd ?_ (hb := by (try simp only [ByteArray.size_append, size_mk, List.size_toArray, List.length_cons, List.length_nil]); omega)); refine o1 (asg ?_); refine ops_nil ?_; refine inb_normal ?_; refine seq_normal ?_
    refine kp [3, 4, 0] ?_; refine runs_region ?_; refine o1 (mv ?_); refine o1 (iad ?_); refine o1 (asg ?_); refine ops_nil ?_; refine seq_back ?_; refine back_i (i + 1) rfl ?_ ?_
    · exact ⟨by omega, by omega⟩
    · refine mo ?_ (sly (slx rfl (by exact Fit.of_eq (by rw [wrF_take hget]; simp only [ByteArray.append_assoc]; rfl)) (sly slz)))
      exact boz

theorem bstr_nil : Tri Tryz.prog gl 67 [.cells [.d (.v (.pointer none)), .d (.v (.slice none 0 0))] 91] [.blk 0 0] fun out ob' => out = .ret (.d (.v (.string .empty))) ∧ ob' = [.dead] := by
  refine triS_of_runs Tryz.func67 rfl Tryz.ntmps67 (rs := [.tmp 2]) rfl rfl rfl 1 rfl ?_
  refine sr ?_; refine o1 (asg ?_); refine nx ?_; refine runs_seq ?_; refine a_start ?_ (hm := by exact mixed); refine A1 0 rfl (mv ⟨_, rfl, ?_⟩); refine A1 1 rfl (ncb ⟨_, rfl, ?_⟩); refine A1 2 rfl (fdb ti91 ⟨_, rfl, ?_⟩)
  refine A1 3 rfl (ldb ti89 ⟨_, rfl, ?_⟩); refine A1 4 rfl (fl_usd_nil rfl rfl ⟨_, rfl, ?_⟩); refine A1 5 rfl (mv ⟨_, rfl, ?_⟩); refine A1 6 rfl (ncb ⟨_, rfl, ?_⟩); refine A1 7 rfl (fdb ti91 ⟨_, rfl, ?_⟩)
  refine A1 8 rfl (ldb ti89 ⟨_, rfl, ?_⟩); refine A1 9 rfl (le4 us89 ⟨_, rfl, ?_⟩); refine A2 10 rfl (op_float (T := fun _ => False) rfl rfl (fl_ustr_nil rfl rfl rfl ?_)); refine A1 11 rfl (asg ⟨_, rfl, ?_⟩); refine a_end ?_
  refine seq_normal ?_; refine runs_ret ?_; refine fin_ret ?_; refine fin_od ⟨_, _, rfl, rfl, rfl⟩ rfl ([0]) ([.dead]) rfl rfl rfl ?_ ?_
  · repeat (first | exact boz | refine bod ?_)
  · exact ⟨rfl, rfl⟩
theorem bstr_u {u : Bool} (hu : u = true) (s : ByteArray) (hs : s ≠ .empty) : Tri Tryz.prog gl 67 (bldO u s) [.blk 0 0] fun out ob' => out = .ret (.d (.v (.string s))) ∧ ob' = [.dead, .dead] := by
  subst hu; exact bstr_spec s hs
theorem wrF_ne {ds : List Dec} (h : ds ≠ []) : wrF ds ≠ .empty := by
  cases ds with
  | nil => exact absurd rfl h
  | cons d r =>
    refine ne_of_size ?_
    simp only [wrF, ByteArray.size_append, size_mk, List.size_toArray, List.length_cons, List.length_nil]; omega
theorem printAll_spec (h3g : g 3 = wordsD) (h7g : g (laysM246_ren.g 17) = p10D) (ds : List Dec) (ho : okF ds) (hb : wtF ds ≤ 1099511627776) : TriD Tryz.prog (glT g) 37 [.sl 15 (decs ds)] (· = .v (.string (wrF ds))) := by
  have hlc := decs_len ds
  have hlf := wtF_len ds
  by_cases hne : ds = []
  · subst hne
    refine triD_of_runs Tryz.func37 rfl Tryz.ntmps37 (rs := [.tmp 2]) rfl rfl rfl ?_
    refine sr ?_; refine o1 (asg ?_); refine nx ?_; refine sr ?_; refine oc (T := fun _ => False) (alc ti91 ?_ (hl := by simp only [List.length_cons, List.length_nil, Nat.reduceAdd]; rfl)); refine nx ?_; refine runs_seq ?_; refine sr ?_
    refine o1 (mv ?_); refine o1 (le1 us58 ?_); refine o1 (mv ?_); refine nx ?_; refine runs_block ?_; refine kp [8, 7, 6, 3] ?_
    apply runs_loop_c (ι := Unit) (fun _ => [(8, int 0)]) [7, 6, 3] (fun _ => True) (fun _ => 0) (())
    case hk => exact rfl
    case hI =>
      trivial
    case hm =>
      refine mo ?_ (sly (sly (sly (sly slz))))
      repeat (first | exact boz | refine boc ?_)
    case h =>
      rintro _ hinv
      try dsimp only at hinv
      refine kp [8, 7, 6, 3] ?_; refine sr ?_; refine o1 (ilt ?_); refine nx ?_; refine runs_seq ?_; refine cd (fun h3 => ?_) (fun h3 => ?_)
      · (try simp only [nrm, Int.reduceEq, Int.reduceNe, Int.reduceLT, Int.reduceLE] at h3); contradiction
      (try simp only [nrm, Int.reduceEq, Int.reduceNe, Int.reduceLT, Int.reduceLE] at h3); refine runs_exit ?_; refine seq_exit ?_; refine seq_exit ?_; refine inb_exit ?_; refine seq_normal ?_; refine kp [3] ?_; refine sr ?_
      refine oc (ck ca67 rfl rfl (bstr_nil) [0] rfl (boc .nil) (fir .nil) ?_); refine o1 (asg ?_); refine nx ?_; refine runs_ret ?_; refine fin_ret ?_; refine fin_d1 rfl rfl ?_
      rfl
  · have hlp := List.length_pos_iff.2 hne
    have hwne := wrF_ne hne
    refine triD_of_runs Tryz.func37 rfl Tryz.ntmps37 (rs := [.tmp 2]) rfl rfl rfl ?_
    refine sr ?_; refine o1 (asg ?_); refine nx ?_; refine sr ?_; refine oc (T := fun _ => False) (alc ti91 ?_ (hl := by simp only [List.length_cons, List.length_nil, Nat.reduceAdd]; rfl)); refine nx ?_; refine runs_seq ?_; refine runs_seq ?_
    refine runs_nilrow 5 1 rfl ?_; refine runs_region ?_; refine o1 (mv ?_); refine o1 (le1 us58 ?_); refine o1 (mv ?_); refine nx ?_; refine runs_block ?_; refine kp [8, 7, 6, 3] ?_
    apply runs_loop_o (ι := Nat × Bool) (fun ⟨i, u⟩ => [(8, int i)]) (fun ⟨i, u⟩ => [.cells [bldA u, .own 1 1 (bytesD (wrF (ds.take i)))] 91, .row 5 1]) [7, 6, 3] (fun ⟨i, u⟩ => i ≤ ds.length ∧ (0 < i → u = true)) (fun ⟨i, u⟩ => ds.length - i) ((0, false)) ([0, 1])
    case hk => exact rfl
    case hI =>
      exact ⟨Nat.zero_le _, fun h => absurd h (Nat.lt_irrefl 0)⟩
    case hm =>
      refine mo ?_ (sly (sly (sly (sly slz))))
      repeat (first | exact boz | exact fiz | refine bon ?_ | refine boe ?_ ?_ | refine fir ?_ | refine .cons (.nil rfl) ?_)
    case h =>
      rintro ⟨i, u⟩ hinv
      try dsimp only at hinv
      have hws := fun (b t : ByteArray) h1 h2 => ws_spec (gl := glT g) u b t h1 h2
      have hbs := fun (h : u = true) => bstr_u (gl := glT g) h (wrF ds) hwne
      refine kp [8, 7, 6, 3] ?_; cases u <;> (unfold bldA; dsimp only [cond_true, cond_false])
      all_goals (
        refine sr ?_; refine o1 (ilt ?_); refine nx ?_; refine runs_seq ?_; refine cdf (fun h3 => ?_) (fun h3 => ?_)
        · (try simp only [nrm, Int.reduceEq, Int.reduceNe, Int.reduceLT, Int.reduceLE] at h3)
          refine runs_exit ?_; refine seq_exit ?_; refine seq_exit ?_; refine inb_exit ?_; refine seq_normal ?_; refine runs_seq ?_; refine kp [3] ?_; obtain rfl : i = ds.length := (by omega)
          rw [List.take_length]
          refine runs_region ?_; refine oc (ck ca67 rfl rfl (hbs (hinv.2 (by omega))) [0, 1] rfl (boc (bor .nil)) (fir .nil) ?_); refine o1 (asg ?_); refine nx ?_; refine runs_ret ?_; refine fin_ret ?_; refine fin_d1 rfl rfl ?_
          rfl
        (try simp only [nrm, Int.reduceEq, Int.reduceNe, Int.reduceLT, Int.reduceLE] at h3); refine runs_skip ?_; refine seq_normal ?_; refine runs_seq ?_; refine runs_block ?_; refine runs_seq ?_
        obtain ⟨k, nm, ps, k1, n1, s1, l1, a1, k2, n2, s2, l2, a2, a, cs, hget⟩ := dec_get (show i < ds.length by omega)
        have hod := ho _ (List.mem_of_getElem? hget)
        have hwd := wtF_get hget
        have hwz := wrD_size hod
        have hle := wrF_take_le ho i
        have hnext := (wrF_take hget).symm
        have h10 : (wrD (.mk k nm ps (.mk k1 n1 s1 l1 a1) (.mk k2 n2 s2 l2 a2) a cs) ++ ⟨#[10]⟩ : ByteArray).size = (wrD (.mk k nm ps (.mk k1 n1 s1 l1 a1) (.mk k2 n2 s2 l2 a2) a cs)).size + 1 := (by simp only [ByteArray.size_append, size_mk, List.size_toArray, List.length_cons, List.length_nil])
        refine runs_region ?_; refine o1 (ixs us58 te58 ?_ (he := by exact (dec_at hget))); refine o1 (ldc ti67 ?_); refine oc (T := fun _ => False) (alc ti67 ?_ (hl := by simp only [List.length_cons, List.length_nil, Nat.reduceAdd]; rfl))
        refine oc (sto ti67 ?_); refine nx ?_; refine runs_region ?_; refine o1 (ldb ti67 ?_); refine oc (cv ca39 rfl rfl (fprint_spec h3g h7g k nm ps k1 n1 s1 l1 a1 k2 n2 s2 l2 a2 a cs hod (by omega)) (fid .nil) ?_)
        refine o1 (f_sadd ?_ (hb := by (try simp only [ByteArray.size_append, size_mk, List.size_toArray, List.length_cons, List.length_nil]); omega))
        refine oc (ck ca79 rfl rfl (hws (wrF (ds.take i)) (wrD (.mk k nm ps (.mk k1 n1 s1 l1 a1) (.mk k2 n2 s2 l2 a2) a cs) ++ ⟨#[10]⟩) (ne_of_size (by omega)) (by omega)) [0, 1] rfl (boc (bor .nil)) (fir (fir .nil)) ?_); refine ops_nil ?_
        refine inb_normal ?_; refine seq_normal ?_; refine kp [8, 7, 6, 3] ?_; refine runs_region ?_; refine o1 (iad ?_); refine o1 (mv ?_); refine ops_nil ?_; refine seq_back ?_
        rw [hnext]
        refine back_c ((i + 1, true)) rfl ?_ ([0, 1]) ?_
        · exact ⟨⟨by omega, fun _ => rfl⟩, by omega⟩
        · refine mo ?_ (sly (sly (sly (sly slz))))
          repeat (first | exact boz | refine boc ?_ | refine bor ?_)
      )

theorem sameDecl_spec (k : Int) (nm : ByteArray) (ps : List ByteArray) (k1 n1 : Int) (s1 : ByteArray) (l1 : List Lvl) (a1 : List Trm) (k2 n2 : Int) (s2 : ByteArray) (l2 : List Lvl) (a2 : List Trm) (a : Int) (cs : List (ByteArray × Trm))
    (h1 : (Trm.mk k1 n1 s1 l1 a1).size ≤ 1099511627776) (h2 : (Trm.mk k2 n2 s2 l2 a2).size ≤ 1099511627776) (h3 : ∀ c ∈ cs, c.2.size ≤ 1099511627776) (h4 : ps.length ≤ 1099511627776) (h5 : cs.length ≤ 1099511627776) :
    TriD Tryz.prog gl 40 [(Dec.mk k nm ps (.mk k1 n1 s1 l1 a1) (.mk k2 n2 s2 l2 a2) a cs).d, (Dec.mk k nm ps (.mk k1 n1 s1 l1 a1) (.mk k2 n2 s2 l2 a2) a cs).d] (· = .v (.bool true)) := by
  have hs1 := sameTerm_spec (gl := gl) k1 n1 s1 l1 a1 k1 n1 s1 l1 a1 h1
  have hs2 := sameTerm_spec (gl := gl) k2 n2 s2 l2 a2 k2 n2 s2 l2 a2 h2
  rw [Trm.same_self] at hs1 hs2
  have hlc := ctrs_len cs
  have hlp := strs_len ps
  clear h1 h2
  refine triD_of_runs Tryz.func40 rfl Tryz.ntmps40 (rs := [.tmp 4]) rfl rfl rfl ?_
  refine sr ?_; refine oc (T := fun _ => False) (bx ti67 ?_ (hl := by simp only [List.length_cons, List.length_nil, Nat.reduceAdd]; rfl))
  refine oc (T := fun _ => False) (bx ti67 ?_ (hl := by simp only [List.length_cons, List.length_nil, Nat.reduceAdd]; rfl)); refine o1 (asg ?_); refine nx ?_; refine runs_seq ?_; refine sr ?_; refine o1 (fdb ti67 ?_); refine o1 (ldb ti3 ?_)
  refine o1 (fdb ti67 ?_); refine o1 (ldb ti3 ?_); refine o1 (ine ?_); refine o1 (mv ?_)
  apply ops_or (yt := 20) (d := 15) 5 rfl rfl rfl (.none rfl) rfl rfl
  case h1 =>
    intro hb10 hK
    have hc := hb10; (try simp only [nrm, Int.reduceEq, Int.reduceNe, Int.reduceLT, Int.reduceLE] at hc)
    refine gye ?_ (hbw := by exact hb10); refine o1 (fdb ti67 ?_); refine gye ?_ (hbw := by exact hb10); refine o1 (ldb ti9 ?_); refine gye ?_ (hbw := by exact hb10); refine o1 (fdb ti67 ?_); refine gye ?_ (hbw := by exact hb10)
    refine o1 (ldb ti9 ?_); refine gye ?_ (hbw := by exact hb10); refine o1 (sne ?_); exact hK [_, _, _, _, _] rfl rfl
  case h2 =>
    intro hb10 hK; refine gno ?_ (hbw := by exact hb10); refine gno ?_ (hbw := by exact hb10); refine gno ?_ (hbw := by exact hb10); refine gno ?_ (hbw := by exact hb10); refine gno ?_ (hbw := by exact hb10); exact hK [_, _, _, _, _] rfl
  refine o1 (mv ?_)
  apply ops_or (yt := 27) (d := 22) 5 rfl rfl rfl (.none rfl) rfl rfl
  case h1 =>
    intro hb24 hK
    have hc := hb24; (try simp only [nrm, Int.reduceEq, Int.reduceNe, Int.reduceLT, Int.reduceLE] at hc)
    refine gye ?_ (hbw := by exact hb24); refine o1 (fdb ti67 ?_); refine gye ?_ (hbw := by exact hb24); refine o1 (ldb ti3 ?_); refine gye ?_ (hbw := by exact hb24); refine o1 (fdb ti67 ?_); refine gye ?_ (hbw := by exact hb24)
    refine o1 (ldb ti3 ?_); refine gye ?_ (hbw := by exact hb24); refine o1 (ine ?_); exact hK [_, _, _, _, _] rfl rfl
  case h2 =>
    intro hb24 hK; refine gno ?_ (hbw := by exact hb24); refine gno ?_ (hbw := by exact hb24); refine gno ?_ (hbw := by exact hb24); refine gno ?_ (hbw := by exact hb24); refine gno ?_ (hbw := by exact hb24); exact hK [_, _, _, _, _] rfl
  refine o1 (mv ?_)
  apply ops_or (yt := 36) (d := 29) 7 rfl rfl rfl (.none rfl) rfl rfl
  case h1 =>
    intro hb38 hK
    have hc := hb38; (try simp only [nrm, Int.reduceEq, Int.reduceNe, Int.reduceLT, Int.reduceLE] at hc)
    refine gye ?_ (hbw := by exact hb38); refine o1 (fdb ti67 ?_); refine gye ?_ (hbw := by exact hb38); refine o1 (ldb ti42 ?_); refine gye ?_ (hbw := by exact hb38); refine o1 (le1 us42 ?_); refine gye ?_ (hbw := by exact hb38)
    refine o1 (fdb ti67 ?_); refine gye ?_ (hbw := by exact hb38); refine o1 (ldb ti42 ?_); refine gye ?_ (hbw := by exact hb38); refine o1 (le1 us42 ?_); refine gye ?_ (hbw := by exact hb38); refine o1 (ine ?_)
    exact hK [_, _, _, _, _, _, _] rfl rfl
  case h2 =>
    intro hb38 hK; refine gno ?_ (hbw := by exact hb38); refine gno ?_ (hbw := by exact hb38); refine gno ?_ (hbw := by exact hb38); refine gno ?_ (hbw := by exact hb38); refine gno ?_ (hbw := by exact hb38); refine gno ?_ (hbw := by exact hb38)
    refine gno ?_ (hbw := by exact hb38); exact hK [_, _, _, _, _, _, _] rfl
  refine o1 (mv ?_)
  apply ops_or (yt := 45) (d := 38) 7 rfl rfl rfl (.none rfl) rfl rfl
  case h1 =>
    intro hb56 hK
    have hc := hb56; (try simp only [nrm, Int.reduceEq, Int.reduceNe, Int.reduceLT, Int.reduceLE] at hc)
    refine gye ?_ (hbw := by exact hb56); refine o1 (fdb ti67 ?_); refine gye ?_ (hbw := by exact hb56); refine o1 (ldb ti65 ?_); refine gye ?_ (hbw := by exact hb56); refine o1 (le1 us65 ?_); refine gye ?_ (hbw := by exact hb56)
    refine o1 (fdb ti67 ?_); refine gye ?_ (hbw := by exact hb56); refine o1 (ldb ti65 ?_); refine gye ?_ (hbw := by exact hb56); refine o1 (le1 us65 ?_); refine gye ?_ (hbw := by exact hb56); refine o1 (ine ?_)
    exact hK [_, _, _, _, _, _, _] rfl rfl
  case h2 =>
    intro hb56 hK; refine gno ?_ (hbw := by exact hb56); refine gno ?_ (hbw := by exact hb56); refine gno ?_ (hbw := by exact hb56); refine gno ?_ (hbw := by exact hb56); refine gno ?_ (hbw := by exact hb56); refine gno ?_ (hbw := by exact hb56)
    refine gno ?_ (hbw := by exact hb56); exact hK [_, _, _, _, _, _, _] rfl
  refine nx ?_; refine cd (fun h1 => ?_) (fun h1 => ?_)
  · simp only [nrm, Int.reduceEq, Int.reduceNe, Int.reduceLT, Int.reduceLE] at h1
  (try simp only [nrm, Int.reduceEq, Int.reduceNe, Int.reduceLT, Int.reduceLE] at h1); refine runs_skip ?_; refine seq_normal ?_; refine runs_seq ?_; refine kp [3, 2] ?_; refine sr ?_; refine o1 (asg ?_); refine nx ?_; refine runs_block ?_
  apply runs_loop_c (ι := Nat) (fun i => [(5, int i)]) [3, 2] (fun i => i ≤ ps.length) (fun i => ps.length - i) (0)
  case hk => exact rfl
  case hI =>
    exact Nat.zero_le _
  case hm =>
    refine mo ?_ (sly (sly (sly slz)))
    repeat (first | exact boz | refine boc ?_)
  case h =>
    rintro i hinv
    try dsimp only at hinv
    refine kp [5, 3, 2] ?_; refine runs_seq ?_; refine sr ?_; refine o1 (mv ?_); refine o1 (fdb ti67 ?_); refine o1 (ldb ti42 ?_); refine o1 (le1 us42 ?_); refine o1 (ilt ?_); refine nx ?_; refine cd (fun h4 => ?_) (fun h4 => ?_)
    · (try simp only [nrm, Int.reduceEq, Int.reduceNe, Int.reduceLT, Int.reduceLE] at h4)
      refine runs_skip ?_; refine seq_normal ?_; refine runs_seq ?_; refine runs_block ?_; refine runs_seq ?_; refine kp [5, 3, 2] ?_; refine a_start ?_ (hm := by exact mixed); refine A1 0 rfl (fdb ti67 ⟨_, rfl, ?_⟩)
      refine A1 1 rfl (ldb ti42 ⟨_, rfl, ?_⟩); refine A1 2 rfl (mv ⟨_, rfl, ?_⟩); refine A1 3 rfl (ixs us42 te42 ⟨_, rfl, ?_⟩ (he := by exact (str_at (show i < ps.length by omega)))); refine A1 4 rfl (ldc ti9 ⟨_, rfl, ?_⟩)
      refine A1 5 rfl (fdb ti67 ⟨_, rfl, ?_⟩); refine A1 6 rfl (ldb ti42 ⟨_, rfl, ?_⟩); refine A1 7 rfl (mv ⟨_, rfl, ?_⟩); refine A1 8 rfl (ixs us42 te42 ⟨_, rfl, ?_⟩ (he := by exact (str_at (show i < ps.length by omega))))
      refine A1 9 rfl (ldc ti9 ⟨_, rfl, ?_⟩); refine A1 10 rfl (sne ⟨_, rfl, ?_⟩); refine a_end ?_; refine seq_normal ?_; refine cd (fun h6 => ?_) (fun h6 => ?_)
      · simp only [nrm, Int.reduceEq, Int.reduceNe, Int.reduceLT, Int.reduceLE] at h6
      (try simp only [nrm, Int.reduceEq, Int.reduceNe, Int.reduceLT, Int.reduceLE] at h6); refine runs_skip ?_; refine inb_normal ?_; refine seq_normal ?_; refine kp [5, 3, 2] ?_; refine runs_region ?_; refine o1 (mv ?_); refine o1 (iad ?_)
      refine o1 (asg ?_); refine ops_nil ?_; refine seq_back ?_; refine back_i (i + 1) rfl ?_ ?_
      · exact ⟨by omega, by omega⟩
      · refine mo ?_ (sly (sly (sly slz)))
        repeat (first | exact boz | refine boc ?_)
    (try simp only [nrm, Int.reduceEq, Int.reduceNe, Int.reduceLT, Int.reduceLE] at h4); refine runs_exit ?_; refine seq_exit ?_; refine seq_exit ?_; refine inb_exit ?_; refine seq_normal ?_; refine runs_seq ?_; refine kp [3, 2] ?_; refine sr ?_
    refine o1 (asg ?_); refine nx ?_; refine runs_block ?_
    apply runs_loop_c (ι := Nat) (fun j => [(6, int j)]) [3, 2] (fun j => j ≤ cs.length) (fun j => cs.length - j) (0)
    case hk => exact rfl
    case hI =>
      exact Nat.zero_le _
    case hm =>
      refine mo ?_ (sly (sly (sly slz)))
      repeat (first | exact boz | refine boc ?_)
    case h =>
      rintro j hinv
      try dsimp only at hinv
      refine kp [6, 3, 2] ?_; refine runs_seq ?_; refine sr ?_; refine o1 (mv ?_); refine o1 (fdb ti67 ?_); refine o1 (ldb ti65 ?_); refine o1 (le1 us65 ?_); refine o1 (ilt ?_); refine nx ?_; refine cdf (fun h9 => ?_) (fun h9 => ?_)
      · (try simp only [nrm, Int.reduceEq, Int.reduceNe, Int.reduceLT, Int.reduceLE] at h9)
        refine runs_exit ?_; refine seq_exit ?_; refine seq_exit ?_; refine inb_exit ?_; refine seq_normal ?_; refine kp [3, 2] ?_; refine sr ?_; refine o1 (fdb ti67 ?_); refine o1 (ldb ti31 ?_); refine o1 (fdb ti67 ?_); refine o1 (ldb ti31 ?_)
        refine oc (cv ca17 rfl rfl (hs1) (fid (fid .nil)) ?_); refine o1 (asg ?_); refine nx ?_; refine kp [8, 3, 2] ?_; refine sr ?_; refine o1 (fdb ti67 ?_); refine o1 (ldb ti31 ?_); refine o1 (fdb ti67 ?_); refine o1 (ldb ti31 ?_)
        refine oc (cv ca17 rfl rfl (hs2) (fid (fid .nil)) ?_); refine o1 (asg ?_); refine nx ?_; refine kp [9, 8] ?_; refine sr ?_; refine o1 (mv ?_); refine o1 (mv ?_)
        apply ops_and (yt := 114) (d := 113) 1 rfl rfl rfl (.none rfl) rfl rfl
        case h1 =>
          intro hb3 hK
          have hc := hb3; (try simp only [nrm, Int.reduceEq, Int.reduceNe, Int.reduceLT, Int.reduceLE] at hc)
          refine gye ?_ (hbw := by exact hb3); refine o1 (mv ?_); exact hK [_] rfl rfl
        case h2 =>
          intro hb3 hK; refine gno ?_ (hbw := by exact hb3); exact hK [_] rfl
        refine o1 (asg ?_); refine nx ?_; refine runs_ret ?_; refine fin_ret ?_; refine fin_d1 rfl rfl ?_
        rfl
      (try simp only [nrm, Int.reduceEq, Int.reduceNe, Int.reduceLT, Int.reduceLE] at h9); refine runs_skip ?_; refine seq_normal ?_; refine runs_seq ?_; refine runs_block ?_; refine runs_seq ?_; refine kp [6, 3, 2] ?_
      obtain ⟨cn, k3, n3, s3, l3, a3, hget⟩ := ctr_get (show j < cs.length by omega)
      have hs3 := sameTerm_spec (gl := gl) k3 n3 s3 l3 a3 k3 n3 s3 l3 a3 (h3 _ (List.mem_of_getElem? hget))
      rw [Trm.same_self] at hs3
      refine a_start ?_ (hm := by exact mixed); refine A1 0 rfl (fdb ti67 ⟨_, rfl, ?_⟩); refine A1 1 rfl (ldb ti65 ⟨_, rfl, ?_⟩); refine A1 2 rfl (mv ⟨_, rfl, ?_⟩); refine A1 3 rfl (ixs us65 te65 ⟨_, rfl, ?_⟩ (he := by exact (ctr_at hget)))
      refine A1 4 rfl (fdc ti111 ⟨_, rfl, ?_⟩); refine A1 5 rfl (ldc ti31 ⟨_, rfl, ?_⟩); refine A1 6 rfl (fdb ti67 ⟨_, rfl, ?_⟩); refine A1 7 rfl (ldb ti65 ⟨_, rfl, ?_⟩); refine A1 8 rfl (mv ⟨_, rfl, ?_⟩)
      refine A1 9 rfl (ixs us65 te65 ⟨_, rfl, ?_⟩ (he := by exact (ctr_at hget))); refine A1 10 rfl (fdc ti111 ⟨_, rfl, ?_⟩); refine A1 11 rfl (ldc ti31 ⟨_, rfl, ?_⟩); refine A2 12 rfl (cv ca17 rfl rfl (hs3) (fid (fid .nil)) ?_)
      refine A1 13 rfl (asg ⟨_, rfl, ?_⟩); refine a_end ?_; refine seq_normal ?_; refine runs_seq ?_; refine kp [7, 6, 3, 2] ?_; refine a_start ?_ (hm := by exact mixed); refine A1 0 rfl (mv ⟨_, rfl, ?_⟩); refine A1 1 rfl (f_not ⟨_, rfl, ?_⟩)
      refine A1 2 rfl (mv ⟨_, rfl, ?_⟩); refine asp 87 (fun hc => ?_) (fun hc => ?_)
      · simp only [nrm, Int.reduceEq, Int.reduceNe, Int.reduceLT, Int.reduceLE] at hc
      (try simp only [nrm, Int.reduceEq, Int.reduceNe, Int.reduceLT, Int.reduceLE] at hc); refine A6 3 rfl (fdb ti67 ⟨_, rfl, ?_⟩); refine A6 4 rfl (ldb ti65 ⟨_, rfl, ?_⟩); refine A6 5 rfl (mv ⟨_, rfl, ?_⟩)
      refine A6 6 rfl (ixs us65 te65 ⟨_, rfl, ?_⟩ (he := by exact (ctr_at hget))); refine A6 7 rfl (fdc ti111 ⟨_, rfl, ?_⟩); refine A6 8 rfl (ldc ti9 ⟨_, rfl, ?_⟩); refine A6 9 rfl (fdb ti67 ⟨_, rfl, ?_⟩); refine A6 10 rfl (ldb ti65 ⟨_, rfl, ?_⟩)
      refine A6 11 rfl (mv ⟨_, rfl, ?_⟩); refine A6 12 rfl (ixs us65 te65 ⟨_, rfl, ?_⟩ (he := by exact (ctr_at hget))); refine A6 13 rfl (fdc ti111 ⟨_, rfl, ?_⟩); refine A6 14 rfl (ldc ti9 ⟨_, rfl, ?_⟩); refine A6 15 rfl (sne ⟨_, rfl, ?_⟩)
      refine A1 16 rfl (f_pick_f ⟨_, rfl, ?_⟩); refine a_end ?_; refine seq_normal ?_; refine cd (fun h12 => ?_) (fun h12 => ?_)
      · simp only [nrm, Int.reduceEq, Int.reduceNe, Int.reduceLT, Int.reduceLE] at h12
      (try simp only [nrm, Int.reduceEq, Int.reduceNe, Int.reduceLT, Int.reduceLE] at h12); refine runs_skip ?_; refine inb_normal ?_; refine seq_normal ?_; refine kp [6, 3, 2] ?_; refine runs_region ?_; refine o1 (mv ?_); refine o1 (iad ?_)
      refine o1 (asg ?_); refine ops_nil ?_; refine seq_back ?_; refine back_i (j + 1) rfl ?_ ?_
      · exact ⟨by omega, by omega⟩
      · refine mo ?_ (sly (sly (sly slz)))
        repeat (first | exact boz | refine boc ?_)
end Go.Proofs.YtneaancanfpdhaaGreatDoor
