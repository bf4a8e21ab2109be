/-
  What is proved here: TermMoves: whatever script it is called on, it answers true, and the script reads as it did; on condition that the listed package variables start as the text lays them, which the card ties.
-/
import Derived.Test.YtneaancanfpdhaaGreatDoorI5
import Derived.Shelf.Strings.OnBuilder
import Derived.Shelf.Strconv.Itoa3
import Derived.Shelf.Strconv.ErrVarAll
import Derived.Test.YtneaancanfpdhaaGreatDoorProg
import Derived.WalkSmall
import Derived.LaidLaws
import Derived.Test.YtneaancanfpdhaaGreatDoorTie
import Derived.Test.YtneaancanfpdhaaGreatDoorCards
import Derived.SevenTiedAt
set_option linter.unusedSimpArgs false
set_option linter.unusedVariables false
namespace Go.Proofs.YtneaancanfpdhaaGreatDoor
open Go Go.Vd Go.RowKit
attribute [local irreducible] Runs OpsR OpR FloatR AnyR AnyO
variable {g gl : Nat → List D}
theorem tparams_spec : ∀ (n : Nat) (k m : Int) (s : ByteArray) (ls : List Lvl) (args : List Trm) (ah : List ByteArray), (Trm.mk k m s ls args).size ≤ n → ah.length + (Trm.mk k m s ls args).size ≤ 1099511627776 →
    Tri Tryz.prog gl 22 [.row 9 1] [.d (Trm.mk k m s ls args).d, .own 0 1 (strs ah)] fun out ob' => out = .ret (.own 0 1 (strs (tpar (.mk k m s ls args) ah))) ∧ ob' = [.row 9 1] := by
  intro n
  induction n with
  | zero => intro k m s ls args ah h; simp [Trm.size] at h
  | succ n ih =>
    intro k m s ls args ah hn hb
    simp only [Trm.size] at hn hb
    have hlen := trms_len args
    have hlenL := lvls_len ls
    have hlb := trms_size args
    have hlbL := lvls_size ls
    have hpl := paramsL_len ls ah
    refine triS_of_runs Tryz.func22 rfl Tryz.ntmps22 (rs := [.tmp 4]) rfl rfl rfl 1 rfl ?_
    refine sr ?_; refine oc (T := fun _ => False) (bx ti31 ?_ (hl := by simp only [List.length_cons, List.length_nil, Nat.reduceAdd]; rfl)); refine o1 (asg ?_); refine nx ?_; refine runs_seq ?_; refine sr ?_; refine o1 (asg ?_); refine nx ?_
    refine runs_block ?_; refine kp [5, 2, 1] ?_
    apply runs_loop_c (ι := Nat) (fun i => [(5, int i), (1, .own 0 1 (strs (paramsL (ls.take i) ah)))]) [2] (fun i => i ≤ ls.length) (fun i => ls.length - i) (0)
    case hk => exact rfl
    case hI =>
      exact Nat.zero_le _
    case hm =>
      refine mo ?_ (sly (sly (sly slz)))
      repeat (first | exact boz | refine boc ?_ | refine bor ?_)
    case h =>
      rintro i hinv
      try dsimp only at hinv
      refine kp [5, 1, 2] ?_; refine runs_seq ?_; refine sr ?_; refine o1 (mv ?_); refine o1 (fdb ti31 ?_); refine o1 (ldb ti28 ?_); refine o1 (le1 us28 ?_); refine o1 (ilt ?_); refine nx ?_; refine cd (fun h2 => ?_) (fun h2 => ?_)
      · (try simp only [nrm, Int.reduceEq, Int.reduceNe, Int.reduceLT, Int.reduceLE] at h2)
        refine runs_skip ?_; refine seq_normal ?_; refine runs_seq ?_; refine runs_block ?_; refine kp [5, 1, 2] ?_; refine runs_region ?_; refine o1 (fdb ti31 ?_); refine o1 (ldb ti28 ?_); refine o1 (mv ?_)
        obtain ⟨k', s', a', hget⟩ := lvl_get (show i < ls.length by omega)
        have hsz' := size_get hget
        have hlt := paramsL_len (ls.take i) ah
        have hst := sizes_take hget
        have hsl := sizes_take_le ls (i + 1)
        refine o1 (ixs us28 te28 ?_ (he := by exact (lvl_at hget))); refine o1 (ldc ti45 ?_); refine o1 (mv ?_)
        refine oc (op_callo ca59 rfl rfl rfl rfl (params_spec _ k' s' a' (paramsL (ls.take i) ah) (Nat.le_refl _) (by omega)) [0] (bor .nil) rfl rfl rfl rfl (fid (fir .nil)) (fun s ob' hq => ?_) (fun s ob' hq => ?_))
        rotate_left
        · first | exact hq.elim | cases hq.1
        obtain ⟨hq1, rfl⟩ := hq; cases hq1
        rw [← paramsL_take hget]; refine ⟨_, _, _, _, _, rfl, rfl, rfl, rfl, rfl, ?_⟩
        refine o1 (asg ?_); refine ops_nil ?_; refine inb_normal ?_; refine seq_normal ?_; refine kp [1, 5, 2] ?_; refine runs_region ?_; refine o1 (mv ?_); refine o1 (iad ?_); refine o1 (asg ?_); refine ops_nil ?_; refine seq_back ?_
        refine back_i (i + 1) rfl ?_ ?_
        · exact ⟨by omega, by omega⟩
        · refine mo ?_ (sly (sly (sly slz)))
          repeat (first | exact boz | refine boc ?_ | refine bor ?_)
      (try simp only [nrm, Int.reduceEq, Int.reduceNe, Int.reduceLT, Int.reduceLE] at h2); refine runs_exit ?_; refine seq_exit ?_; refine seq_exit ?_; refine inb_exit ?_; refine seq_normal ?_; refine runs_seq ?_; refine runs_seq ?_
      refine kp [1, 2] ?_; obtain rfl : i = ls.length := (by omega)
      rw [List.take_of_length_le (Nat.le_refl _)]
      refine runs_region ?_; refine o1 (asg ?_); refine nx ?_; refine runs_block ?_
      apply runs_loop_c (ι := Nat) (fun j => [(6, int j), (1, .own 0 1 (strs (tpars (args.take j) (paramsL ls ah))))]) [2] (fun j => j ≤ args.length) (fun j => args.length - j) (0)
      case hk => exact rfl
      case hI =>
        exact Nat.zero_le _
      case hm =>
        refine mo ?_ (sly (sly (sly slz)))
        repeat (first | exact boz | refine boc ?_ | refine bor ?_)
      case h =>
        rintro j hinv
        try dsimp only at hinv
        refine kp [6, 1, 2] ?_; refine runs_seq ?_; refine sr ?_; refine o1 (mv ?_); refine o1 (fdb ti31 ?_); refine o1 (ldb ti29 ?_); refine o1 (le1 us29 ?_); refine o1 (ilt ?_); refine nx ?_; refine cdf (fun h6 => ?_) (fun h6 => ?_)
        · (try simp only [nrm, Int.reduceEq, Int.reduceNe, Int.reduceLT, Int.reduceLE] at h6)
          refine runs_exit ?_; refine seq_exit ?_; refine seq_exit ?_; refine inb_exit ?_; refine seq_normal ?_; refine kp [1] ?_; refine sr ?_; refine o1 (mv ?_); refine o1 (asg ?_); refine nx ?_; refine runs_ret ?_; refine fin_ret ?_
          refine fin_o ⟨_, _, rfl, rfl, rfl⟩ [0] (.own 0 1 (strs (tpars (args.take j) (paramsL ls ah)))) ([.row 9 1]) rfl rfl rfl ?_ rfl ?_ ?_
          · repeat (first | exact boz | refine bor ?_)
          · exact .refl _
          · refine ⟨?_, rfl⟩; rw [List.take_of_length_le (by omega), tpar]
        (try simp only [nrm, Int.reduceEq, Int.reduceNe, Int.reduceLT, Int.reduceLE] at h6); refine runs_skip ?_; refine seq_normal ?_; refine runs_seq ?_; refine runs_block ?_; refine kp [6, 1, 2] ?_; refine runs_region ?_; refine o1 (fdb ti31 ?_)
        refine o1 (ldb ti29 ?_); refine o1 (mv ?_); obtain ⟨k', n', s', m', a', hget⟩ := trm_get (show j < args.length by omega)
        have hsz' := sizeT_get hget
        have hlt := tpars_len (args.take j) (paramsL ls ah)
        have hst := sizesT_takeX hget
        have hsl := sizesT_takeX_le args (j + 1)
        refine o1 (ixs us29 te29 ?_ (he := by exact (trm_at hget))); refine o1 (ldc ti31 ?_); refine o1 (mv ?_)
        refine oc (op_callo ca22 rfl rfl rfl rfl (ih k' n' s' m' a' (tpars (args.take j) (paramsL ls ah)) (by omega) (by omega)) [0] (bor .nil) rfl rfl rfl rfl (fid (fir .nil)) (fun s ob' hq => ?_) (fun s ob' hq => ?_))
        rotate_left
        · first | exact hq.elim | cases hq.1
        obtain ⟨hq1, rfl⟩ := hq; cases hq1
        rw [← tpars_take hget]; refine ⟨_, _, _, _, _, rfl, rfl, rfl, rfl, rfl, ?_⟩
        refine o1 (asg ?_); refine ops_nil ?_; refine inb_normal ?_; refine seq_normal ?_; refine kp [1, 6, 2] ?_; refine runs_region ?_; refine o1 (mv ?_); refine o1 (iad ?_); refine o1 (asg ?_); refine ops_nil ?_; refine seq_back ?_
        refine back_i (j + 1) rfl ?_ ?_
        · exact ⟨by omega, by omega⟩
        · refine mo ?_ (sly (sly (sly slz)))
          repeat (first | exact boz | refine boc ?_ | refine bor ?_)
theorem alikeW_spec (L : List ByteArray) (hL : L.length ≤ 6) : ∀ (n : Nat) (k m : Int) (s : ByteArray) (ls : List Lvl) (args : List Trm) (k2 m2 : Int) (s2 : ByteArray) (ls2 : List Lvl) (args2 : List Trm), (Trm.mk k m s ls args).size ≤ n → (Trm.mk k m s ls args).size ≤ 4000000 → (Trm.mk k2 m2 s2 ls2 args2).size ≤ 4000000 →
    okT (.mk k m s ls args) → okT (.mk k2 m2 s2 ls2 args2) → allL (inL L) (.mk k m s ls args) → allL (inL L) (.mk k2 m2 s2 ls2 args2) →
    TriD Tryz.prog gl 55 [(Trm.mk k m s ls args).d, (Trm.mk k2 m2 s2 ls2 args2).d, .v (.bool true)] (· = .v (.bool (eqT eqLv (.mk k m s ls args) (.mk k2 m2 s2 ls2 args2)))) := by
  intro n
  induction n with
  | zero => intro k m s ls args k2 m2 s2 ls2 args2 h; simp [Trm.size] at h
  | succ n ih =>
    intro k m s ls args k2 m2 s2 ls2 args2 hn hb hb2 ho ho2 hi hi2
    have hlen := trms_len args
    have hlen2 := trms_len args2
    have hlb := trms_size args
    have hlenL := lvls_len ls
    have hlenL2 := lvls_len ls2
    have hlbL := lvls_size ls
    simp only [Trm.size] at hn hb hb2
    rw [eqT_mk]
    refine triD_of_runs Tryz.func55 rfl Tryz.ntmps55 (rs := [.tmp 6]) rfl rfl rfl ?_
    refine sr ?_; refine oc (T := fun _ => False) (bx ti31 ?_ (hl := by simp only [List.length_cons, List.length_nil, Nat.reduceAdd]; rfl))
    refine oc (T := fun _ => False) (bx ti31 ?_ (hl := by simp only [List.length_cons, List.length_nil, Nat.reduceAdd]; rfl)); refine o1 (asg ?_); refine nx ?_; refine runs_seq ?_; refine sr ?_; refine o1 (fdb ti31 ?_); refine o1 (ldb ti3 ?_)
    refine o1 (fdb ti31 ?_); refine o1 (ldb ti3 ?_); refine o1 (ine ?_); refine o1 (mv ?_)
    apply ops_or (yt := 21) (d := 16) 5 rfl rfl rfl (.none rfl) rfl rfl
    case h1 =>
      intro hb10 hK
      have hc := hb10; (try simp only [nrm, Int.reduceEq, Int.reduceNe, Int.reduceLT, Int.reduceLE] at hc)
      refine gye ?_ (hbw := by exact hb10); refine o1 (fdb ti31 ?_); refine gye ?_ (hbw := by exact hb10); refine o1 (ldb ti3 ?_); refine gye ?_ (hbw := by exact hb10); refine o1 (fdb ti31 ?_); refine gye ?_ (hbw := by exact hb10)
      refine o1 (ldb ti3 ?_); refine gye ?_ (hbw := by exact hb10); refine o1 (ine ?_); exact hK [_, _, _, _, _] rfl rfl
    case h2 =>
      intro hb10 hK; refine gno ?_ (hbw := by exact hb10); refine gno ?_ (hbw := by exact hb10); refine gno ?_ (hbw := by exact hb10); refine gno ?_ (hbw := by exact hb10); refine gno ?_ (hbw := by exact hb10); exact hK [_, _, _, _, _] rfl
    refine o1 (mv ?_)
    apply ops_or (yt := 28) (d := 23) 5 rfl rfl rfl (.none rfl) rfl rfl
    case h1 =>
      intro hb24 hK
      have hc := hb24; (try simp only [nrm, Int.reduceEq, Int.reduceNe, Int.reduceLT, Int.reduceLE] at hc)
      refine gye ?_ (hbw := by exact hb24); refine o1 (fdb ti31 ?_); refine gye ?_ (hbw := by exact hb24); refine o1 (ldb ti9 ?_); refine gye ?_ (hbw := by exact hb24); refine o1 (fdb ti31 ?_); refine gye ?_ (hbw := by exact hb24)
      refine o1 (ldb ti9 ?_); refine gye ?_ (hbw := by exact hb24); refine o1 (sne ?_); exact hK [_, _, _, _, _] rfl rfl
    case h2 =>
      intro hb24 hK; refine gno ?_ (hbw := by exact hb24); refine gno ?_ (hbw := by exact hb24); refine gno ?_ (hbw := by exact hb24); refine gno ?_ (hbw := by exact hb24); refine gno ?_ (hbw := by exact hb24); exact hK [_, _, _, _, _] rfl
    refine o1 (mv ?_)
    apply ops_or (yt := 37) (d := 30) 7 rfl rfl rfl (.none rfl) rfl rfl
    case h1 =>
      intro hb38 hK
      have hc := hb38; (try simp only [nrm, Int.reduceEq, Int.reduceNe, Int.reduceLT, Int.reduceLE] at hc)
      refine gye ?_ (hbw := by exact hb38); refine o1 (fdb ti31 ?_); refine gye ?_ (hbw := by exact hb38); refine o1 (ldb ti28 ?_); refine gye ?_ (hbw := by exact hb38); refine o1 (le1 us28 ?_); refine gye ?_ (hbw := by exact hb38)
      refine o1 (fdb ti31 ?_); refine gye ?_ (hbw := by exact hb38); refine o1 (ldb ti28 ?_); refine gye ?_ (hbw := by exact hb38); refine o1 (le1 us28 ?_); refine gye ?_ (hbw := by exact hb38); refine o1 (ine ?_)
      exact hK [_, _, _, _, _, _, _] rfl rfl
    case h2 =>
      intro hb38 hK; refine gno ?_ (hbw := by exact hb38); refine gno ?_ (hbw := by exact hb38); refine gno ?_ (hbw := by exact hb38); refine gno ?_ (hbw := by exact hb38); refine gno ?_ (hbw := by exact hb38); refine gno ?_ (hbw := by exact hb38)
      refine gno ?_ (hbw := by exact hb38); exact hK [_, _, _, _, _, _, _] rfl
    refine o1 (mv ?_)
    apply ops_or (yt := 46) (d := 39) 7 rfl rfl rfl (.none rfl) rfl rfl
    case h1 =>
      intro hb56 hK
      have hc := hb56; (try simp only [nrm, Int.reduceEq, Int.reduceNe, Int.reduceLT, Int.reduceLE] at hc)
      refine gye ?_ (hbw := by exact hb56); refine o1 (fdb ti31 ?_); refine gye ?_ (hbw := by exact hb56); refine o1 (ldb ti29 ?_); refine gye ?_ (hbw := by exact hb56); refine o1 (le1 us29 ?_); refine gye ?_ (hbw := by exact hb56)
      refine o1 (fdb ti31 ?_); refine gye ?_ (hbw := by exact hb56); refine o1 (ldb ti29 ?_); refine gye ?_ (hbw := by exact hb56); refine o1 (le1 us29 ?_); refine gye ?_ (hbw := by exact hb56); refine o1 (ine ?_)
      exact hK [_, _, _, _, _, _, _] rfl rfl
    case h2 =>
      intro hb56 hK; refine gno ?_ (hbw := by exact hb56); refine gno ?_ (hbw := by exact hb56); refine gno ?_ (hbw := by exact hb56); refine gno ?_ (hbw := by exact hb56); refine gno ?_ (hbw := by exact hb56); refine gno ?_ (hbw := by exact hb56)
      refine gno ?_ (hbw := by exact hb56); exact hK [_, _, _, _, _, _, _] rfl
    refine nx ?_; refine cd (fun h1 => ?_) (fun h1 => ?_)
    · (try simp only [nrm, Int.reduceEq, Int.reduceNe, Int.reduceLT, Int.reduceLE] at h1)
      refine kp [] ?_; refine sr ?_; refine o1 (asg ?_); refine nx ?_; refine runs_ret ?_; refine seq_ret ?_; refine fin_ret ?_; refine fin_d1 rfl rfl ?_
      rcases h1 with (((h | h) | h) | h) | h
      · simp [h]
      · simp [h]
      · simp [h]
      · rw [allB_ne (a := ls) (b := ls2) (by omega)]; simp
      · rw [allB_ne (a := args) (b := args2) (by omega)]; simp
    (try simp only [nrm, Int.reduceEq, Int.reduceNe, Int.reduceLT, Int.reduceLE] at h1); refine runs_skip ?_; refine seq_normal ?_; refine runs_seq ?_; refine kp [4, 3, 2] ?_; refine sr ?_; refine o1 (asg ?_); refine nx ?_; refine runs_block ?_
    apply runs_loop_c (ι := Nat) (fun i => [(7, int i)]) [4, 3, 2] (fun i => i ≤ ls.length ∧ allB eqLv (ls.take i) (ls2.take i) = true) (fun i => ls.length - i) (0)
    case hk => exact rfl
    case hI =>
      exact ⟨Nat.zero_le _, by simp [allB]⟩
    case hm =>
      refine mo ?_ (sly (sly (sly (sly slz))))
      repeat (first | exact boz | refine boc ?_)
    case h =>
      rintro i hinv
      try dsimp only at hinv
      refine kp [7, 4, 3, 2] ?_; refine runs_seq ?_; refine sr ?_; refine o1 (mv ?_); refine o1 (fdb ti31 ?_); refine o1 (ldb ti28 ?_); refine o1 (le1 us28 ?_); refine o1 (ilt ?_); refine nx ?_; refine cdf (fun h4 => ?_) (fun h4 => ?_)
      · (try simp only [nrm, Int.reduceEq, Int.reduceNe, Int.reduceLT, Int.reduceLE] at h4)
        refine runs_exit ?_; refine seq_exit ?_; refine seq_exit ?_; refine inb_exit ?_; refine seq_normal ?_; refine runs_seq ?_; refine runs_seq ?_; refine kp [4, 3, 2] ?_
        have hLL := hinv.2
        rw [List.take_of_length_le (by omega), List.take_of_length_le (by omega)] at hLL
        refine runs_region ?_; refine o1 (asg ?_); refine nx ?_; refine runs_block ?_
        apply runs_loop_c (ι := Nat) (fun j => [(9, int j)]) [4, 3, 2] (fun j => j ≤ args.length ∧ allB (eqT eqLv) (args.take j) (args2.take j) = true) (fun j => args.length - j) (0)
        case hk => exact rfl
        case hI =>
          exact ⟨Nat.zero_le _, by simp [allB]⟩
        case hm =>
          refine mo ?_ (sly (sly (sly (sly slz))))
          repeat (first | exact boz | refine boc ?_)
        case h =>
          rintro j hinv
          try dsimp only at hinv
          refine kp [9, 4, 3, 2] ?_; refine runs_seq ?_; refine sr ?_; refine o1 (mv ?_); refine o1 (fdb ti31 ?_); refine o1 (ldb ti29 ?_); refine o1 (le1 us29 ?_); refine o1 (ilt ?_); refine nx ?_; refine cdf (fun h12 => ?_) (fun h12 => ?_)
          · (try simp only [nrm, Int.reduceEq, Int.reduceNe, Int.reduceLT, Int.reduceLE] at h12)
            refine runs_exit ?_; refine seq_exit ?_; refine seq_exit ?_; refine inb_exit ?_; refine seq_normal ?_; refine kp [] ?_; refine sr ?_; refine o1 (asg ?_); refine nx ?_; refine runs_ret ?_; refine fin_ret ?_; refine fin_d1 rfl rfl ?_
            have h9 := hinv.2; rw [List.take_of_length_le (by omega), List.take_of_length_le (by omega)] at h9; simp [h9, h1, hLL]
          (try simp only [nrm, Int.reduceEq, Int.reduceNe, Int.reduceLT, Int.reduceLE] at h12); refine runs_skip ?_; refine seq_normal ?_; refine runs_seq ?_; refine runs_block ?_; refine runs_seq ?_; refine kp [9, 4, 3, 2] ?_
          obtain ⟨k', n', s', l', a', hget⟩ := trm_get (show j < args.length by omega); obtain ⟨k2', n2', s2', l2', a2', hget2⟩ := trm_get (show j < args2.length by omega)
          have hsz' := sizeT_get hget
          have hsz2' := sizeT_get hget2
          refine a_start ?_ (hm := by exact mixed); refine A1 0 rfl (fdb ti31 ⟨_, rfl, ?_⟩); refine A1 1 rfl (ldb ti29 ⟨_, rfl, ?_⟩); refine A1 2 rfl (mv ⟨_, rfl, ?_⟩); refine A1 3 rfl (ixs us29 te29 ⟨_, rfl, ?_⟩ (he := by exact (trm_at hget)))
          refine A1 4 rfl (ldc ti31 ⟨_, rfl, ?_⟩); refine A1 5 rfl (fdb ti31 ⟨_, rfl, ?_⟩); refine A1 6 rfl (ldb ti29 ⟨_, rfl, ?_⟩); refine A1 7 rfl (mv ⟨_, rfl, ?_⟩); refine A1 8 rfl (ixs us29 te29 ⟨_, rfl, ?_⟩ (he := by exact (trm_at hget2)))
          refine A1 9 rfl (ldc ti31 ⟨_, rfl, ?_⟩); refine A1 10 rfl (mv ⟨_, rfl, ?_⟩)
          refine A2 11 rfl (cv ca55 rfl rfl (ih k' n' s' l' a' k2' n2' s2' l2' a2' (by omega) (by omega) (by omega) (okT_get ho.2.2.2.2.2 hget) (okT_get ho2.2.2.2.2.2 hget2) (allLs_get hi.2 (List.mem_of_getElem? hget)) (allLs_get hi2.2 (List.mem_of_getElem? hget2))) (fid (fid (fir .nil))) ?_)
          refine A1 12 rfl (asg ⟨_, rfl, ?_⟩); refine a_end ?_; refine seq_normal ?_; refine kp [10, 9, 4, 3, 2] ?_; refine sr ?_; refine o1 (mv ?_); refine o1 (f_not ?_); refine nx ?_; refine cd (fun h15 => ?_) (fun h15 => ?_)
          · (try simp only [nrm, Int.reduceEq, Int.reduceNe, Int.reduceLT, Int.reduceLE] at h15)
            refine kp [] ?_; refine sr ?_; refine o1 (asg ?_); refine nx ?_; refine runs_ret ?_; refine inb_ret ?_; refine seq_ret ?_; refine seq_ret ?_; refine inb_ret ?_; refine seq_ret ?_; refine fin_ret ?_; refine fin_d1 rfl rfl ?_
            rw [allB_false hget hget2 h15]; simp
          (try simp only [nrm, Int.reduceEq, Int.reduceNe, Int.reduceLT, Int.reduceLE] at h15); refine runs_skip ?_; refine inb_normal ?_; refine seq_normal ?_; refine runs_region ?_; refine o1 (mv ?_); refine o1 (iad ?_); refine o1 (asg ?_)
          refine ops_nil ?_; refine seq_back ?_; refine back_i (j + 1) rfl ?_ ?_
          · exact ⟨⟨by omega, by rw [allB_take hget hget2]; simp [hinv.2, h15]⟩, by omega⟩
          · refine mo ?_ (sly (sly (sly (sly slz))))
            repeat (first | exact boz | refine boc ?_)
      (try simp only [nrm, Int.reduceEq, Int.reduceNe, Int.reduceLT, Int.reduceLE] at h4); refine runs_skip ?_; refine seq_normal ?_; refine runs_seq ?_; refine runs_block ?_; refine runs_seq ?_; refine kp [7, 4, 3, 2] ?_
      obtain ⟨k', s', a', hget⟩ := lvl_get (show i < ls.length by omega); obtain ⟨k2', s2', a2', hget2⟩ := lvl_get (show i < ls2.length by omega)
      have hsz' := size_get hget
      have hsz2' := size_get hget2
      obtain ⟨x, hx, fx⟩ := okLs_get ho.2.2.2.2.1 hget; obtain ⟨y, hy, fy⟩ := okLs_get ho2.2.2.2.2.1 hget2
      have ix := hi.1 _ (List.mem_of_getElem? hget)
      have iy := hi2.1 _ (List.mem_of_getElem? hget2)
      have sx := x.size_toLvl
      have sy := y.size_toLvl
      have hrs := rsame_spec (gl := gl) x y (ps_len hL (by rw [← hx]; exact ix) (by rw [← hy]; exact iy)) (ps_len hL (by rw [← hy]; exact iy) (by rw [← hx]; exact ix)) (by rw [← hx] at sx; omega) (by rw [← hy] at sy; omega)
      rw [refLeq_sem (nmL_of_fit x fx) (nmL_of_fit y fy), refLeq_sem (nmL_of_fit y fy) (nmL_of_fit x fx), ← semL_of, ← hx, ← hy] at hrs
      have hss := sameLvl_spec (gl := gl) _ k' s' a' k2' s2' a2' (Nat.le_refl _) (by omega)
      refine a_start ?_ (hm := by exact mixed); refine A1 0 rfl (fdb ti31 ⟨_, rfl, ?_⟩); refine A1 1 rfl (ldb ti28 ⟨_, rfl, ?_⟩); refine A1 2 rfl (mv ⟨_, rfl, ?_⟩); refine A1 3 rfl (ixs us28 te28 ⟨_, rfl, ?_⟩ (he := by exact (lvl_at hget)))
      refine A1 4 rfl (ldc ti45 ⟨_, rfl, ?_⟩); refine A1 5 rfl (fdb ti31 ⟨_, rfl, ?_⟩); refine A1 6 rfl (ldb ti28 ⟨_, rfl, ?_⟩); refine A1 7 rfl (mv ⟨_, rfl, ?_⟩); refine A1 8 rfl (ixs us28 te28 ⟨_, rfl, ?_⟩ (he := by exact (lvl_at hget2)))
      refine A1 9 rfl (ldc ti45 ⟨_, rfl, ?_⟩); refine A2 10 rfl (cv ca94 rfl rfl (hss) (fid (fid .nil)) ?_); refine A1 11 rfl (asg ⟨_, rfl, ?_⟩); refine a_end ?_; refine seq_normal ?_; refine runs_seq ?_; refine kp [8, 7, 4, 3, 2] ?_; refine sr ?_
      refine o1 (mv ?_); refine o1 (f_not ?_); refine o1 (mv ?_)
      apply ops_and (yt := 69) (d := 68) 1 rfl rfl rfl (.none rfl) rfl rfl
      case h1 =>
        intro hb5 hK
        have hc := hb5; (try simp only [nrm, Int.reduceEq, Int.reduceNe, Int.reduceLT, Int.reduceLE] at hc)
        refine gye ?_ (hbw := by exact hb5); refine o1 (mv ?_); exact hK [_] rfl rfl
      case h2 =>
        intro hb5 hK; refine gno ?_ (hbw := by exact hb5); exact hK [_] rfl
      refine nx ?_; refine kp [70, 8, 7, 4, 3, 2] ?_
      apply runs_cut_c (ι := Unit) (fun _ => [(8, .d (.v (.bool (eqLv (.mk k' s' a') (.mk k2' s2' a2')))))]) [7, 4, 3, 2] (fun _ => True)
      case hk => exact rfl
      case h1 =>
        refine cdf (fun h7 => ?_) (fun h7 => ?_)
        · (try simp only [nrm, Int.reduceEq, Int.reduceNe, Int.reduceLT, Int.reduceLE] at h7)
          refine runs_skip ?_; refine seq_back ?_; refine back_i (()) rfl ?_ ?_
          · trivial
          · refine mo ?_ (slx rfl (by exact Fit.of_eq (by simp only [eqLv, h7, Bool.true_or, Bool.false_or]; rfl)) (sly (sly (sly (sly slz)))))
            repeat (first | exact boz | refine boc ?_)
        (try simp only [nrm, Int.reduceEq, Int.reduceNe, Int.reduceLT, Int.reduceLE] at h7); refine a_start ?_ (hm := by exact mixed); refine A1 0 rfl (fdb ti31 ⟨_, rfl, ?_⟩); refine A1 1 rfl (ldb ti28 ⟨_, rfl, ?_⟩)
        refine A1 2 rfl (mv ⟨_, rfl, ?_⟩); refine A1 3 rfl (ixs us28 te28 ⟨_, rfl, ?_⟩ (he := by exact (lvl_at hget))); refine A1 4 rfl (ldc ti45 ⟨_, rfl, ?_⟩); refine A1 5 rfl (fdb ti31 ⟨_, rfl, ?_⟩); refine A1 6 rfl (ldb ti28 ⟨_, rfl, ?_⟩)
        refine A1 7 rfl (mv ⟨_, rfl, ?_⟩); refine A1 8 rfl (ixs us28 te28 ⟨_, rfl, ?_⟩ (he := by exact (lvl_at hget2))); refine A1 9 rfl (ldc ti45 ⟨_, rfl, ?_⟩); refine A2 10 rfl (cv ca95 rfl rfl (hrs) (fid (fid .nil)) ?_)
        refine A1 11 rfl (asg ⟨_, rfl, ?_⟩); refine a_end ?_; refine seq_back ?_; refine back_i (()) rfl ?_ ?_
        · trivial
        · refine mo ?_ (slx rfl (by exact Fit.of_eq (by simp only [eqLv, h7, Bool.true_or, Bool.false_or]; rfl)) (sly (sly (sly (sly slz)))))
          repeat (first | exact boz | refine boc ?_)
      case h2 =>
        rintro _ hcut
        try dsimp only at hcut
        refine kp [8, 7, 4, 3, 2] ?_; refine sr ?_; refine o1 (mv ?_); refine o1 (f_not ?_); refine nx ?_; refine cd (fun h9 => ?_) (fun h9 => ?_)
        · (try simp only [nrm, Int.reduceEq, Int.reduceNe, Int.reduceLT, Int.reduceLE] at h9)
          refine kp [] ?_; refine sr ?_; refine o1 (asg ?_); refine nx ?_; refine runs_ret ?_; refine inb_ret ?_; refine seq_ret ?_; refine seq_ret ?_; refine inb_ret ?_; refine seq_ret ?_; refine fin_ret ?_; refine fin_d1 rfl rfl ?_
          rw [allB_false hget hget2 h9]; simp
        (try simp only [nrm, Int.reduceEq, Int.reduceNe, Int.reduceLT, Int.reduceLE] at h9); refine runs_skip ?_; refine inb_normal ?_; refine seq_normal ?_; refine runs_region ?_; refine o1 (mv ?_); refine o1 (iad ?_); refine o1 (asg ?_)
        refine ops_nil ?_; refine seq_back ?_; refine back_i (i + 1) rfl ?_ ?_
        · exact ⟨⟨by omega, by rw [allB_take hget hget2]; simp [hinv.2, h9]⟩, by omega⟩
        · refine mo ?_ (sly (sly (sly (sly slz))))
          repeat (first | exact boz | refine boc ?_)
theorem requal_spec (L : List ByteArray) (hL : L.length ≤ 6) (k m : Int) (s : ByteArray) (ls : List Lvl) (args : List Trm) (k2 m2 : Int) (s2 : ByteArray) (ls2 : List Lvl) (args2 : List Trm) (hb : (Trm.mk k m s ls args).size ≤ 4000000) (hb2 : (Trm.mk k2 m2 s2 ls2 args2).size ≤ 4000000)
    (ho : okT (.mk k m s ls args)) (ho2 : okT (.mk k2 m2 s2 ls2 args2)) (hi : allL (inL L) (.mk k m s ls args)) (hi2 : allL (inL L) (.mk k2 m2 s2 ls2 args2)) :
    TriD Tryz.prog gl 23 [(Trm.mk k m s ls args).d, (Trm.mk k2 m2 s2 ls2 args2).d] (· = .v (.bool (eqT eqLv (.mk k m s ls args) (.mk k2 m2 s2 ls2 args2)))) := by
  refine triD_of_runs Tryz.func23 rfl Tryz.ntmps23 (rs := [.tmp 4]) rfl rfl rfl ?_
  refine sr ?_; refine oc (T := fun _ => False) (bx ti31 ?_ (hl := by simp only [List.length_cons, List.length_nil, Nat.reduceAdd]; rfl))
  refine oc (T := fun _ => False) (bx ti31 ?_ (hl := by simp only [List.length_cons, List.length_nil, Nat.reduceAdd]; rfl)); refine o1 (asg ?_); refine nx ?_; refine sr ?_; refine o1 (ldb ti31 ?_); refine o1 (ldb ti31 ?_)
  refine oc (cv ca55 rfl rfl (alikeW_spec L hL _ k m s ls args k2 m2 s2 ls2 args2 (Nat.le_refl _) hb hb2 ho ho2 hi hi2) (fid (fid (fir .nil))) ?_); refine o1 (asg ?_); refine nx ?_; refine runs_ret ?_; refine fin_ret ?_
  refine fin_d1 rfl rfl ?_
  rfl
end Go.Proofs.YtneaancanfpdhaaGreatDoor
namespace Go.Proofs.YtneaancanfpdhaaGreatDoor
open Go Go.Vd Go.RowKit
attribute [local irreducible] Runs OpsR OpR FloatR AnyR AnyO
variable {g gl : Nat → List D}
theorem walk1_spec {F : Trm → Int → Trm} {B : Int} {f : FuncId} (hcf : callable Tryz.prog f = true) {x1 : D} {ty1 : TypeId}
    (hf : ∀ (m : Int) (s : ByteArray) (ls : List Lvl) (args : List Trm) (d : Int), 0 ≤ m → m ≤ B → 0 ≤ d → d ≤ 1099511627776 → Tri Tryz.prog gl f [.cells [.d x1] ty1] [.d (Trm.mk 0 m s ls args).d, .d (.v (.int .i64 d)), .blk 0 0] fun out ob' => out = .ret (.d (F (.mk 0 m s ls args) d).d) ∧ ob' = [.cells [.d x1] ty1]) :
    ∀ (n : Nat) (k m : Int) (s : ByteArray) (ls : List Lvl) (args : List Trm) (d : Int), (Trm.mk k m s ls args).size ≤ n → numT B (.mk k m s ls args) → 0 ≤ d → d + (Trm.mk k m s ls args).size ≤ 1099511627776 →
      Tri Tryz.prog gl 90 [.cells [.d x1] ty1] [.d (Trm.mk k m s ls args).d, .d (.v (.int .i64 d)), .fn (.func f) [] [.blk 0 0]] fun out ob' => out = .ret (.d (mapT F (.mk k m s ls args) d).d) ∧ ob' = [.cells [.d x1] ty1] := by
  intro n
  induction n with
  | zero => intro k m s ls args d h; simp [Trm.size] at h
  | succ n ih =>
    intro k m s ls args d hsz hnum hd0 hd1
    have hsz2 := hsz
    simp only [Trm.size] at hsz2 hd1
    have hal := trms_len args
    have hsa := sizesT_len args
    refine triS_of_runs Tryz.func90 rfl Tryz.ntmps90 (rs := [.cell 6 31]) rfl rfl rfl 1 rfl ?_
    refine sr ?_; refine oc (T := fun _ => False) (bx ti31 ?_ (hl := by simp only [List.length_cons, List.length_nil, Nat.reduceAdd]; rfl))
    refine oc (T := fun _ => False) (alc ti31 ?_ (hl := by simp only [List.length_cons, List.length_nil, Nat.reduceAdd]; rfl)); refine nx ?_; refine runs_seq ?_; refine sr ?_; refine o1 (fdb ti31 ?_); refine o1 (ldb ti3 ?_); refine o1 (ieq ?_)
    refine nx ?_; refine cd (fun h1 => ?_) (fun h1 => ?_)
    · (try simp only [nrm, Int.reduceEq, Int.reduceNe, Int.reduceLT, Int.reduceLE] at h1)
      refine runs_seq ?_; refine kp [6, 3, 1, 2] ?_; obtain rfl := h1; obtain ⟨k1, m1, s1, l1, a1, hX⟩ := Trm.case (F (.mk 0 m s ls args) d)
      have hv := numT_var hnum
      have hcx := hf m s ls args d hv.1 hv.2 hd0 (by omega)
      rw [hX] at hcx
      refine runs_region ?_; refine o1 (mv ?_); refine o1 (ldb ti31 ?_); refine o1 (mv ?_)
      refine oc (op_callc hcf rfl rfl rfl rfl rfl rfl rfl rfl (hcx) ([0]) (boc .nil) rfl rfl rfl rfl (fid (fir (fir .nil))) (fun s ob' hq => ?_) (fun s ob' hq => ?_))
      rotate_left
      · first | exact hq.elim | cases hq.1
      obtain ⟨hq1, rfl⟩ := hq; cases hq1; refine ⟨_, _, _, _, _, rfl, rfl, rfl, rfl, rfl, ?_⟩; refine oc (sto ti31 ?_); refine nx ?_; refine runs_ret ?_; refine seq_ret ?_; refine fin_ret ?_
      refine fin_odl ⟨_, _, rfl, (from_cell rfl rfl ti31 rfl rfl rfl rfl), rfl⟩ rfl ((Trm.mk k1 m1 s1 l1 a1).d) (by exact .refl _) ([0]) ([.cells [.d x1] ty1]) rfl rfl rfl ?_ ?_
      · repeat (first | exact boz | refine boc ?_)
      · rw [mapT, if_pos rfl, hX]; exact ⟨rfl, rfl⟩
    (try simp only [nrm, Int.reduceEq, Int.reduceNe, Int.reduceLT, Int.reduceLE] at h1); refine runs_skip ?_; refine seq_normal ?_; refine runs_seq ?_; refine kp [6, 3, 1, 2] ?_; refine sr ?_; refine o1 (fdb ti31 ?_); refine o1 (ldb ti29 ?_)
    refine o1 (le1 us29 ?_); refine o1 (ieq ?_); refine nx ?_; refine cd (fun h3 => ?_) (fun h3 => ?_)
    · (try simp only [nrm, Int.reduceEq, Int.reduceNe, Int.reduceLT, Int.reduceLE] at h3)
      refine kp [6, 3] ?_; refine sr ?_; refine o1 (ldb ti31 ?_); refine oc (sto ti31 ?_); refine nx ?_; refine runs_ret ?_; refine seq_ret ?_; refine fin_ret ?_
      refine fin_odl ⟨_, _, rfl, (from_cell rfl rfl ti31 rfl rfl rfl rfl), rfl⟩ rfl ((Trm.mk k m s ls args).d) (by exact .refl _) ([0]) ([.cells [.d x1] ty1]) rfl rfl rfl ?_ ?_
      · repeat (first | exact boz | refine boc ?_)
      · rw [mapT, if_neg h1, show args = [] from List.length_eq_zero_iff.1 (by omega)]; exact ⟨rfl, rfl⟩
    (try simp only [nrm, Int.reduceEq, Int.reduceNe, Int.reduceLT, Int.reduceLE] at h3); refine runs_skip ?_; refine seq_normal ?_; refine kp [6, 3, 1, 2] ?_; refine sr ?_; refine o1 (ldb ti31 ?_)
    refine oc (T := fun _ => False) (alc ti31 ?_ (hl := by simp only [List.length_cons, List.length_nil, Nat.reduceAdd]; rfl)); refine oc (sto ti31 ?_); refine nx ?_; refine sr ?_; refine o1 (fdb ti31 ?_); refine o1 (ldb ti29 ?_)
    refine o1 (le1 us29 ?_); refine oc (T := fun _ => False) (op_mkslice sl29 ti31 rfl rfl rfl rfl rfl (by simp only [List.length_cons, List.length_nil, Nat.reduceAdd]; rfl) (by (simp only [maxLen]; omega)) rfl ?_); refine o1 (fdb ti31 ?_)
    refine oc (sto ti29 ?_); refine nx ?_; refine runs_seq ?_; refine kp [7, 6, 3, 1, 2] ?_; refine sr ?_; refine o1 (fdb ti31 ?_); refine o1 (ldb ti29 ?_); refine o1 (le1 us29 ?_); refine o1 (mv ?_); refine nx ?_; refine runs_block ?_
    refine kp [32, 31, 30, 7, 6, 3, 1, 2] ?_
    apply runs_loop_o (ι := Nat) (fun i => [(32, int i)]) (fun i => [.cells [.d x1] ty1, .cells [.d (.v (.int .i64 k)), .d (.v (.int .i64 m)), .d (.v (.string s)), .d (.sl 3 (lvls ls)), .d (.sl 5 (trms args))] 31, .cells [.d (.v (.int .i64 0)), .d (.v (.int .i64 0)), .d (.v (.string .empty)), .d (.v (.slice none 0 0)), .d (.v (.slice none 0 0))] 31, .cells [.d (.v (.int .i64 k)), .d (.v (.int .i64 m)), .d (.v (.string s)), .d (.sl 3 (lvls ls)), .arr 4 (trms args).length] 31, .buf 31 5 (rowT (mapTs F (decide (4 ≤ k)) args d) i (trms args).length) none]) [31, 30, 7, 6, 3, 1, 2] (fun i => i ≤ args.length) (fun i => args.length - i) (0) ([0, 1, 2, 3, 4])
    case hk => exact rfl
    case hI =>
      exact Nat.zero_le _
    case hm =>
      refine mo ?_ (sly (sly (sly (sly (sly (sly (sly (sly slz))))))))
      repeat (first | exact boz | refine boc ?_ | refine bob ?_)
    case h =>
      rintro i hinv
      try dsimp only at hinv
      refine kp [32, 31, 30, 7, 6, 3, 1, 2] ?_; refine sr ?_; refine o1 (ilt ?_); refine nx ?_; refine runs_seq ?_; refine cdf (fun h8 => ?_) (fun h8 => ?_)
      · (try simp only [nrm, Int.reduceEq, Int.reduceNe, Int.reduceLT, Int.reduceLE] at h8)
        refine runs_exit ?_; refine seq_exit ?_; refine seq_exit ?_; refine inb_exit ?_; refine seq_normal ?_; refine kp [7, 6] ?_; refine sr ?_; obtain rfl : i = (trms args).length := (by omega)
        rw [rowT_end (by rw [mapTs_len]; omega)]
        refine ops_freezeb 4 rfl rfl rfl rfl ?_; refine o1 (ldb ti31 ?_); refine oc (sto ti31 ?_); refine nx ?_; refine runs_ret ?_; refine fin_ret ?_
        refine fin_odl ⟨_, _, rfl, (from_cell rfl rfl ti31 rfl rfl rfl rfl), rfl⟩ rfl ((Trm.mk k m s ls (mapTs F (decide (4 ≤ k)) args d)).d) (by exact .refl _) ([0]) ([.cells [.d x1] ty1]) rfl rfl rfl ?_ ?_
        · repeat (first | exact boz | refine boc ?_)
        · rw [mapT, if_neg h1]; exact ⟨rfl, rfl⟩
      (try simp only [nrm, Int.reduceEq, Int.reduceNe, Int.reduceLT, Int.reduceLE] at h8); refine runs_skip ?_; refine seq_normal ?_; refine runs_seq ?_; refine runs_block ?_; refine runs_seq ?_
      obtain ⟨k2, m2, s2, l2, a2, hget⟩ := trm_get (show i < args.length by omega)
      have hg1 := sizeT_get hget
      have hg2 := mapTs_get F (decide (4 ≤ k)) d hget
      obtain ⟨k3, m3, s3, l3, a3, hY⟩ := Trm.case (mapT F (.mk k2 m2 s2 l2 a2) (if decide (4 ≤ k) = true ∧ i + 1 = args.length then d + 1 else d)); refine runs_region ?_; refine o1 (mv ?_)
      refine o1 (ixs us29 te29 ?_ (he := by exact (trm_at hget))); refine o1 (ldc ti31 ?_); refine oc (T := fun _ => False) (alc ti31 ?_ (hl := by simp only [List.length_cons, List.length_nil, Nat.reduceAdd]; rfl)); refine o1 (asg ?_)
      refine oc (sto ti31 ?_); refine nx ?_; refine kp [8, 9, 32, 31, 30, 7, 6, 3, 1, 2] ?_; refine sr ?_; refine o1 (mv ?_); refine o1 (asg ?_); refine nx ?_; refine runs_seq ?_; refine sr ?_; refine o1 (fdb ti31 ?_); refine o1 (ldb ti3 ?_)
      refine o1 (ige ?_); refine o1 (mv ?_)
      apply ops_and (yt := 47) (d := 41) 6 rfl rfl rfl (.none rfl) rfl rfl
      case h1 =>
        intro hb7 hK
        have hc := hb7; (try simp only [nrm, Int.reduceEq, Int.reduceNe, Int.reduceLT, Int.reduceLE] at hc)
        refine gye ?_ (hbw := by exact hb7); refine o1 (mv ?_); refine gye ?_ (hbw := by exact hb7); refine o1 (fdb ti31 ?_); refine gye ?_ (hbw := by exact hb7); refine o1 (ldb ti29 ?_); refine gye ?_ (hbw := by exact hb7); refine o1 (le1 us29 ?_)
        refine gye ?_ (hbw := by exact hb7); refine o1 (isu ?_); refine gye ?_ (hbw := by exact hb7); refine o1 (ieq ?_); exact hK [_, _, _, _, _, _] rfl rfl
      case h2 =>
        intro hb7 hK; refine gno ?_ (hbw := by exact hb7); refine gno ?_ (hbw := by exact hb7); refine gno ?_ (hbw := by exact hb7); refine gno ?_ (hbw := by exact hb7); refine gno ?_ (hbw := by exact hb7); refine gno ?_ (hbw := by exact hb7)
        exact hK [_, _, _, _, _, _] rfl
      refine nx ?_; refine kp [48, 10, 8, 9, 32, 31, 30, 7, 6, 3, 1, 2] ?_
      apply runs_cut_c (ι := Unit) (fun _ => [(10, int (if decide (4 ≤ k) = true ∧ i + 1 = args.length then d + 1 else d))]) [8, 9, 32, 31, 30, 7, 6, 3, 1, 2] (fun _ => True)
      case hk => exact rfl
      case h1 =>
        refine cdf (fun h11 => ?_) (fun h11 => ?_)
        · (try simp only [nrm, Int.reduceEq, Int.reduceNe, Int.reduceLT, Int.reduceLE] at h11)
          refine runs_skip ?_; refine seq_back ?_; refine back_i (()) rfl ?_ ?_
          · trivial
          · refine mo ?_ (slx rfl (by exact Fit.of_eq (by first | (rw [if_pos (by simp only [decide_eq_true_eq]; omega)]; rfl) | (rw [if_neg (by simp only [decide_eq_true_eq]; omega)]; rfl))) (sly (sly (sly (sly (sly (sly (sly (sly (sly (sly slz)))))))))))
            repeat (first | exact boz | refine boc ?_ | refine bob ?_)
        (try simp only [nrm, Int.reduceEq, Int.reduceNe, Int.reduceLT, Int.reduceLE] at h11); refine runs_region ?_; refine o1 (mv ?_); refine o1 (iad ?_); refine o1 (asg ?_); refine ops_nil ?_; refine seq_back ?_; refine back_i (()) rfl ?_ ?_
        · trivial
        · refine mo ?_ (slx rfl (by exact Fit.of_eq (by first | (rw [if_pos (by simp only [decide_eq_true_eq]; omega)]; rfl) | (rw [if_neg (by simp only [decide_eq_true_eq]; omega)]; rfl))) (sly (sly (sly (sly (sly (sly (sly (sly (sly (sly slz)))))))))))
          repeat (first | exact boz | refine boc ?_ | refine bob ?_)
      case h2 =>
        rintro _ hcut
        try dsimp only at hcut
        refine kp [10, 8, 9, 32, 31, 30, 7, 6, 3, 1, 2] ?_
        have hihx := ih k2 m2 s2 l2 a2 (if decide (4 ≤ k) = true ∧ i + 1 = args.length then d + 1 else d) (by omega) (numT_get hnum h1 hget) (by split <;> omega) (by split <;> omega)
        rw [hY] at hihx hg2
        have hset : (rowT (mapTs F (decide (4 ≤ k)) args d) i (trms args).length).set i [.v (.int .i64 k3), .v (.int .i64 m3), .v (.string s3), .sl 3 (lvls l3), .sl 5 (trms a3)] = rowT (mapTs F (decide (4 ≤ k)) args d) (i + 1) (trms args).length := rowT_set hg2 (by omega)
        refine a_start ?_ (hm := by exact mixed); refine A1 0 rfl (fdb ti31 ⟨_, rfl, ?_⟩); refine A1 1 rfl (ldb ti29 ⟨_, rfl, ?_⟩); refine A1 2 rfl (mv ⟨_, rfl, ?_⟩); refine A1 3 rfl (ldb ti31 ⟨_, rfl, ?_⟩); refine A1 4 rfl (mv ⟨_, rfl, ?_⟩)
        refine A1 5 rfl (mv ⟨_, rfl, ?_⟩); refine A2 6 rfl (ck ca90 rfl rfl (hihx) [0] rfl (boc .nil) (fid (fir (fir .nil))) ?_); refine A1 7 rfl (fl_index_arr' us29 te29 rfl rfl rfl rfl rfl rfl (by omega) ⟨_, rfl, ?_⟩)
        refine A2 8 rfl (op_store_bp ti31 rfl rfl rfl rfl rfl rfl rfl rfl rfl rfl rfl rfl ⟨rfl, by (rw [rowT_len (by rw [mapTs_len]; omega) (by omega)]; omega)⟩ rfl ?_); refine a_end ?_; refine inb_normal ?_; refine seq_normal ?_
        refine kp [32, 31, 30, 7, 6, 3, 1, 2] ?_; refine runs_region ?_; refine o1 (iad ?_); refine o1 (mv ?_); refine ops_nil ?_; refine seq_back ?_
        simp only [Int.toNat_natCast]; rw [hset]
        refine back_c (i + 1) rfl ?_ ([0, 1, 2, 3, 4]) ?_
        · exact ⟨by omega, by omega⟩
        · refine mo ?_ (sly (sly (sly (sly (sly (sly (sly (sly slz))))))))
          repeat (first | exact boz | refine boc ?_ | refine bob ?_)
end Go.Proofs.YtneaancanfpdhaaGreatDoor
namespace Go.Proofs.YtneaancanfpdhaaGreatDoor
open Go Go.Vd Go.RowKit
attribute [local irreducible] Runs OpsR OpR FloatR AnyR AnyO
variable {g gl : Nat → List D}
theorem lift1_spec {m0 fr B : Int} (h0 : 0 ≤ m0 ∧ m0 ≤ 1099511627776) (h1' : 0 ≤ fr ∧ fr ≤ 1099511627776) (hB : B ≤ 1099511627776) (m : Int) (s : ByteArray) (ls : List Lvl) (args : List Trm) (d : Int) (hm0 : 0 ≤ m) (hmB : m ≤ B) (hd0 : 0 ≤ d) (hd1 : d ≤ 1099511627776) :
    Tri Tryz.prog gl 47 [.cells [.d (.v (.int .i64 fr))] 3, .cells [.d (.v (.int .i64 m0))] 3] [.d (Trm.mk 0 m s ls args).d, .d (.v (.int .i64 d)), .blk 0 0, .blk 1 0] fun out ob' => out = .ret (.d (liftF m0 fr (.mk 0 m s ls args) d).d) ∧ ob' = [.cells [.d (.v (.int .i64 fr))] 3, .cells [.d (.v (.int .i64 m0))] 3] := by
  refine triS_of_runs Tryz.func47 rfl Tryz.ntmps47 (rs := [.cell 6 31]) rfl rfl rfl 2 rfl ?_
  refine sr ?_; refine oc (T := fun _ => False) (bx ti31 ?_ (hl := by simp only [List.length_cons, List.length_nil, Nat.reduceAdd]; rfl))
  refine oc (T := fun _ => False) (alc ti31 ?_ (hl := by simp only [List.length_cons, List.length_nil, Nat.reduceAdd]; rfl)); refine nx ?_; refine runs_seq ?_; refine sr ?_; refine o1 (fdb ti31 ?_); refine o1 (ldb ti3 ?_)
  refine o1 (ldb ti3 ?_); refine o1 (mv ?_); refine o1 (iad ?_); refine o1 (ige ?_); refine nx ?_; refine cdf (fun h1 => ?_) (fun h1 => ?_)
  · (try simp only [nrm, Int.reduceEq, Int.reduceNe, Int.reduceLT, Int.reduceLE] at h1)
    refine runs_skip ?_; refine seq_normal ?_; refine kp [6, 4] ?_; refine sr ?_; refine o1 (ldb ti31 ?_); refine oc (sto ti31 ?_); refine nx ?_; refine runs_ret ?_; refine fin_ret ?_
    refine fin_odl ⟨_, _, rfl, (from_cell rfl rfl ti31 rfl rfl rfl rfl), rfl⟩ rfl ((Trm.mk 0 m s ls args).d) (by exact .refl _) ([0, 1]) ([.cells [.d (.v (.int .i64 fr))] 3, .cells [.d (.v (.int .i64 m0))] 3]) rfl rfl rfl ?_ ?_
    · repeat (first | exact boz | refine boc ?_)
    · rw [liftF, if_neg (by omega)]; exact ⟨rfl, rfl⟩
  (try simp only [nrm, Int.reduceEq, Int.reduceNe, Int.reduceLT, Int.reduceLE] at h1); refine kp [6, 4, 3] ?_; refine runs_region ?_; refine o1 (fdb ti31 ?_); refine o1 (ldb ti3 ?_); refine o1 (ldb ti3 ?_); refine o1 (iad ?_)
  refine o1 (fdb ti31 ?_); refine oc (sto ti3 ?_); refine nx ?_; refine kp [6, 4] ?_; refine sr ?_; refine o1 (ldb ti31 ?_); refine oc (sto ti31 ?_); refine nx ?_; refine runs_ret ?_; refine fin_ret ?_
  refine fin_odl ⟨_, _, rfl, (from_cell rfl rfl ti31 rfl rfl rfl rfl), rfl⟩ rfl ((Trm.mk 0 (m + m0) s ls args).d) (by exact .refl _) ([0, 1]) ([.cells [.d (.v (.int .i64 fr))] 3, .cells [.d (.v (.int .i64 m0))] 3]) rfl rfl rfl ?_ ?_
  · repeat (first | exact boz | refine boc ?_)
  · rw [liftF, if_pos (by omega)]; exact ⟨rfl, rfl⟩
theorem map2_spec {F : Trm → Int → Trm} {B : Int} {f : FuncId} (hcf : callable Tryz.prog f = true) {x1 x2 : D} {ty1 ty2 : TypeId}
    (hf : ∀ (m : Int) (s : ByteArray) (ls : List Lvl) (args : List Trm) (d : Int), 0 ≤ m → m ≤ B → 0 ≤ d → d ≤ 1099511627776 → Tri Tryz.prog gl f [.cells [.d x1] ty1, .cells [.d x2] ty2] [.d (Trm.mk 0 m s ls args).d, .d (.v (.int .i64 d)), .blk 0 0, .blk 1 0] fun out ob' => out = .ret (.d (F (.mk 0 m s ls args) d).d) ∧ ob' = [.cells [.d x1] ty1, .cells [.d x2] ty2])
    (k m : Int) (s : ByteArray) (ls : List Lvl) (args : List Trm) (hnum : numT B (.mk k m s ls args)) (hsz : (Trm.mk k m s ls args).size ≤ 1099511627776) :
      Tri Tryz.prog gl 46 [.cells [.d x1] ty1, .cells [.d x2] ty2] [.d (Trm.mk k m s ls args).d, .fn (.func f) [] [.blk 0 0, .blk 1 0]] fun out ob' => out = .ret (.d (mapT F (.mk k m s ls args) 0).d) ∧ ob' = [.cells [.d x1] ty1, .cells [.d x2] ty2] := by
  have hw := walk2_spec (gl := gl) hcf hf _ k m s ls args 0 (Nat.le_refl _) hnum (Int.le_refl _) (by omega)
  obtain ⟨k1, m1, s1, l1, a1, hX⟩ := Trm.case (mapT F (.mk k m s ls args) 0)
  rw [hX] at hw ⊢
  refine triS_of_runs Tryz.func46 rfl Tryz.ntmps46 (rs := [.cell 4 31]) rfl rfl rfl 2 rfl ?_
  refine sr ?_; refine oc (T := fun _ => False) (bx ti31 ?_ (hl := by simp only [List.length_cons, List.length_nil, Nat.reduceAdd]; rfl))
  refine oc (T := fun _ => False) (alc ti31 ?_ (hl := by simp only [List.length_cons, List.length_nil, Nat.reduceAdd]; rfl)); refine nx ?_; refine sr ?_; refine o1 (ldb ti31 ?_); refine o1 (mv ?_)
  refine oc (ck ca90 rfl rfl (hw) [0, 1] rfl (boc (boc .nil)) (fid (fir (fir .nil))) ?_); refine oc (sto ti31 ?_); refine nx ?_; refine runs_ret ?_; refine fin_ret ?_
  refine fin_od ⟨_, _, rfl, (from_cell rfl rfl ti31 rfl rfl rfl rfl), rfl⟩ rfl ([0, 1]) ([.cells [.d x1] ty1, .cells [.d x2] ty2]) rfl rfl rfl ?_ ?_
  · repeat (first | exact boz | refine boc ?_)
  · exact ⟨rfl, rfl⟩
theorem map1_spec {F : Trm → Int → Trm} {B : Int} {f : FuncId} (hcf : callable Tryz.prog f = true) {x1 : D} {ty1 : TypeId}
    (hf : ∀ (m : Int) (s : ByteArray) (ls : List Lvl) (args : List Trm) (d : Int), 0 ≤ m → m ≤ B → 0 ≤ d → d ≤ 1099511627776 → Tri Tryz.prog gl f [.cells [.d x1] ty1] [.d (Trm.mk 0 m s ls args).d, .d (.v (.int .i64 d)), .blk 0 0] fun out ob' => out = .ret (.d (F (.mk 0 m s ls args) d).d) ∧ ob' = [.cells [.d x1] ty1])
    (k m : Int) (s : ByteArray) (ls : List Lvl) (args : List Trm) (hnum : numT B (.mk k m s ls args)) (hsz : (Trm.mk k m s ls args).size ≤ 1099511627776) :
      Tri Tryz.prog gl 46 [.cells [.d x1] ty1] [.d (Trm.mk k m s ls args).d, .fn (.func f) [] [.blk 0 0]] fun out ob' => out = .ret (.d (mapT F (.mk k m s ls args) 0).d) ∧ ob' = [.cells [.d x1] ty1] := by
  have hw := walk1_spec (gl := gl) hcf hf _ k m s ls args 0 (Nat.le_refl _) hnum (Int.le_refl _) (by omega)
  obtain ⟨k1, m1, s1, l1, a1, hX⟩ := Trm.case (mapT F (.mk k m s ls args) 0)
  rw [hX] at hw ⊢
  refine triS_of_runs Tryz.func46 rfl Tryz.ntmps46 (rs := [.cell 4 31]) rfl rfl rfl 1 rfl ?_
  refine sr ?_; refine oc (T := fun _ => False) (bx ti31 ?_ (hl := by simp only [List.length_cons, List.length_nil, Nat.reduceAdd]; rfl))
  refine oc (T := fun _ => False) (alc ti31 ?_ (hl := by simp only [List.length_cons, List.length_nil, Nat.reduceAdd]; rfl)); refine nx ?_; refine sr ?_; refine o1 (ldb ti31 ?_); refine o1 (mv ?_)
  refine oc (ck ca90 rfl rfl (hw) [0] rfl (boc .nil) (fid (fir (fir .nil))) ?_); refine oc (sto ti31 ?_); refine nx ?_; refine runs_ret ?_; refine fin_ret ?_
  refine fin_od ⟨_, _, rfl, (from_cell rfl rfl ti31 rfl rfl rfl rfl), rfl⟩ rfl ([0]) ([.cells [.d x1] ty1]) rfl rfl rfl ?_ ?_
  · repeat (first | exact boz | refine boc ?_)
  · exact ⟨rfl, rfl⟩
theorem lift_spec {m0 fr B : Int} (h0 : 0 ≤ m0 ∧ m0 ≤ 1099511627776) (hf0 : 0 ≤ fr ∧ fr ≤ 1099511627776) (hB : B ≤ 1099511627776) (k m : Int) (s : ByteArray) (ls : List Lvl) (args : List Trm) (hnum : numT B (.mk k m s ls args)) (hsz : (Trm.mk k m s ls args).size ≤ 1099511627776) :
    TriD Tryz.prog gl 12 [(Trm.mk k m s ls args).d, .v (.int .i64 m0), .v (.int .i64 fr)] (· = (liftT (.mk k m s ls args) m0 fr).d) := by
  have hc := map2_spec (gl := gl) ca47 (lift1_spec h0 hf0 hB) k m s ls args hnum hsz
  obtain ⟨k1, m1, s1, l1, a1, hX⟩ := Trm.case (mapT (liftF m0 fr) (.mk k m s ls args) 0)
  rw [hX] at hc
  refine triD_of_runs Tryz.func12 rfl Tryz.ntmps12 (rs := [.cell 6 31]) rfl rfl rfl ?_
  refine sr ?_; refine oc (T := fun _ => False) (bx ti31 ?_ (hl := by simp only [List.length_cons, List.length_nil, Nat.reduceAdd]; rfl))
  refine oc (T := fun _ => False) (bx ti3 ?_ (hl := by simp only [List.length_cons, List.length_nil, Nat.reduceAdd]; rfl))
  refine oc (T := fun _ => False) (bx ti3 ?_ (hl := by simp only [List.length_cons, List.length_nil, Nat.reduceAdd]; rfl))
  refine oc (T := fun _ => False) (alc ti31 ?_ (hl := by simp only [List.length_cons, List.length_nil, Nat.reduceAdd]; rfl)); refine nx ?_; refine runs_seq ?_; refine sr ?_; refine o1 (ldb ti3 ?_); refine o1 (ieq ?_); refine nx ?_
  refine cd (fun h1 => ?_) (fun h1 => ?_)
  · (try simp only [nrm, Int.reduceEq, Int.reduceNe, Int.reduceLT, Int.reduceLE] at h1)
    refine kp [6, 3] ?_; refine sr ?_; refine o1 (ldb ti31 ?_); refine oc (sto ti31 ?_); refine nx ?_; refine runs_ret ?_; refine seq_ret ?_; refine fin_ret ?_
    refine fin_dl ⟨_, _, rfl, (from_cell rfl rfl ti31 rfl rfl rfl rfl), rfl⟩ rfl ((Trm.mk k m s ls args).d) (by exact .refl _) ?_
    rw [liftT, if_pos h1]
  (try simp only [nrm, Int.reduceEq, Int.reduceNe, Int.reduceLT, Int.reduceLE] at h1); refine runs_skip ?_; refine seq_normal ?_; refine kp [6, 5, 4, 3] ?_; refine sr ?_; refine o1 (ldb ti31 ?_); refine o1 (f_func ?_)
  refine oc (ck ca46 rfl rfl (hc) [2, 1] rfl (boc (boc .nil)) (fid (fir .nil)) ?_); refine oc (sto ti31 ?_); refine nx ?_; refine runs_ret ?_; refine fin_ret ?_
  refine fin_dl ⟨_, _, rfl, (from_cell rfl rfl ti31 rfl rfl rfl rfl), rfl⟩ rfl ((Trm.mk k1 m1 s1 l1 a1).d) (by exact .refl _) ?_
  rw [liftT, if_neg h1, hX]
theorem inst1_spec {B : Int} (hB : B ≤ 1099511627776) (kv nv : Int) (sv : ByteArray) (lv : List Lvl) (av : List Trm) (hnv : numT B (.mk kv nv sv lv av)) (hsv : (Trm.mk kv nv sv lv av).size ≤ 1099511627776) (m : Int) (s : ByteArray) (ls : List Lvl) (args : List Trm) (d : Int) (hm0 : 0 ≤ m) (hmB : m ≤ B) (hd0 : 0 ≤ d) (hd1 : d ≤ 1099511627776) :
    Tri Tryz.prog gl 91 [.cells [.d (.sl 5 (trms [.mk kv nv sv lv av]))] 29] [.d (Trm.mk 0 m s ls args).d, .d (.v (.int .i64 d)), .blk 0 0] fun out ob' => out = .ret (.d (instF (.mk kv nv sv lv av) (.mk 0 m s ls args) d).d) ∧ ob' = [.cells [.d (.sl 5 (trms [.mk kv nv sv lv av]))] 29] := by
  have hl := lift_spec (gl := gl) (m0 := d) (fr := 0) ⟨hd0, hd1⟩ ⟨by omega, by omega⟩ hB kv nv sv lv av hnv hsv
  obtain ⟨k1, m1, s1, l1, a1, hX⟩ := Trm.case (liftT (.mk kv nv sv lv av) d 0)
  rw [hX] at hl
  have hlen : (trms [.mk kv nv sv lv av]).length = 1 := rfl
  refine triS_of_runs Tryz.func91 rfl Tryz.ntmps91 (rs := [.cell 5 31]) rfl rfl rfl 1 rfl ?_
  refine sr ?_; refine oc (T := fun _ => False) (bx ti31 ?_ (hl := by simp only [List.length_cons, List.length_nil, Nat.reduceAdd]; rfl))
  refine oc (T := fun _ => False) (alc ti31 ?_ (hl := by simp only [List.length_cons, List.length_nil, Nat.reduceAdd]; rfl)); refine nx ?_; refine runs_seq ?_; refine sr ?_; refine o1 (fdb ti31 ?_); refine o1 (ldb ti3 ?_); refine o1 (mv ?_)
  refine o1 (isu ?_); refine o1 (asg ?_); refine nx ?_; refine runs_block ?_; refine kp [6, 5, 3, 1, 2] ?_; refine sr ?_; refine o1 (mv ?_); refine o1 (ilt ?_); refine o1 (asg ?_); refine nx ?_; refine cd (fun h3 => ?_) (fun h3 => ?_)
  · (try simp only [nrm, Int.reduceEq, Int.reduceNe, Int.reduceLT, Int.reduceLE] at h3)
    refine runs_skip ?_; refine inb_normal ?_; refine seq_normal ?_; refine kp [5, 3] ?_; refine sr ?_; refine o1 (ldb ti31 ?_); refine oc (sto ti31 ?_); refine nx ?_; refine runs_ret ?_; refine fin_ret ?_
    refine fin_odl ⟨_, _, rfl, (from_cell rfl rfl ti31 rfl rfl rfl rfl), rfl⟩ rfl ((Trm.mk 0 m s ls args).d) (by exact .refl _) ([0]) ([.cells [.d (.sl 5 (trms [.mk kv nv sv lv av]))] 29]) rfl rfl rfl ?_ ?_
    · repeat (first | exact boz | refine boc ?_)
    · rw [instF, if_pos (by omega)]; exact ⟨rfl, rfl⟩
  (try simp only [nrm, Int.reduceEq, Int.reduceNe, Int.reduceLT, Int.reduceLE] at h3); refine sr ?_; refine o1 (mv ?_); refine o1 (ldb ti29 ?_); refine o1 (le1 us29 ?_); refine o1 (ilt ?_); refine o1 (asg ?_); refine nx ?_
  refine cdf (fun h4 => ?_) (fun h4 => ?_)
  · (try simp only [nrm, Int.reduceEq, Int.reduceNe, Int.reduceLT, Int.reduceLE] at h4)
    refine kp [5, 3, 2] ?_; refine runs_region ?_; refine o1 (fdb ti31 ?_); refine o1 (ldb ti3 ?_); refine o1 (ldb ti29 ?_); refine o1 (le1 us29 ?_); refine o1 (isu ?_); refine o1 (fdb ti31 ?_); refine oc (sto ti3 ?_); refine ops_nil ?_
    refine inb_normal ?_; refine seq_normal ?_; refine kp [5, 3] ?_; refine sr ?_; refine o1 (ldb ti31 ?_); refine oc (sto ti31 ?_); refine nx ?_; refine runs_ret ?_; refine fin_ret ?_
    refine fin_odl ⟨_, _, rfl, (from_cell rfl rfl ti31 rfl rfl rfl rfl), rfl⟩ rfl ((Trm.mk 0 (m - (trms [.mk kv nv sv lv av]).length) s ls args).d) (by exact .refl _) ([0]) ([.cells [.d (.sl 5 (trms [.mk kv nv sv lv av]))] 29]) rfl rfl rfl ?_ ?_
    · repeat (first | exact boz | refine boc ?_)
    · rw [instF, if_neg (by omega), if_neg (by omega)]; exact ⟨rfl, rfl⟩
  (try simp only [nrm, Int.reduceEq, Int.reduceNe, Int.reduceLT, Int.reduceLE] at h4); refine kp [6, 5, 1, 2] ?_; refine sr ?_; refine o1 (ldb ti29 ?_); refine o1 (ldb ti29 ?_); refine o1 (le1 us29 ?_); refine o1 (isu ?_); refine o1 (mv ?_)
  refine o1 (isu ?_); refine o1 (ixs us29 te29 ?_ (he := by exact ((by rw [hlen, show (((1 : Nat) : Int) - 1 - (m - d)).toNat = 0 by omega]; rfl)))); refine o1 (ldc ti31 ?_); refine o1 (mv ?_)
  refine oc (cv ca12 rfl rfl (hl) (fid (fir (fir .nil))) ?_); refine oc (sto ti31 ?_); refine nx ?_; refine runs_ret ?_; refine inb_ret ?_; refine seq_ret ?_; refine fin_ret ?_
  refine fin_odl ⟨_, _, rfl, (from_cell rfl rfl ti31 rfl rfl rfl rfl), rfl⟩ rfl ((Trm.mk k1 m1 s1 l1 a1).d) (by exact .refl _) ([0]) ([.cells [.d (.sl 5 (trms [.mk kv nv sv lv av]))] 29]) rfl rfl rfl ?_ ?_
  · repeat (first | exact boz | refine boc ?_)
  · rw [instF, if_neg (by omega), if_pos (by omega), hX]; exact ⟨rfl, rfl⟩
theorem subst_spec {B : Int} (hB : B ≤ 1099511627776) (kv nv : Int) (sv : ByteArray) (lv : List Lvl) (av : List Trm) (hnv : numT B (.mk kv nv sv lv av)) (hsv : (Trm.mk kv nv sv lv av).size ≤ 1099511627776) (k m : Int) (s : ByteArray) (ls : List Lvl) (args : List Trm) (hnum : numT B (.mk k m s ls args)) (hsz : (Trm.mk k m s ls args).size ≤ 1099511627776) :
    TriD Tryz.prog gl 13 [(Trm.mk k m s ls args).d, (Trm.mk kv nv sv lv av).d] (· = (substT (.mk k m s ls args) (.mk kv nv sv lv av)).d) := by
  have hc := map1_spec (gl := gl) ca91 (inst1_spec hB kv nv sv lv av hnv hsv) k m s ls args hnum hsz
  obtain ⟨k1, m1, s1, l1, a1, hX⟩ := Trm.case (mapT (instF (.mk kv nv sv lv av)) (.mk k m s ls args) 0)
  rw [hX] at hc
  have hi : TriD Tryz.prog gl 48 [(Trm.mk k m s ls args).d, .sl 5 (trms [.mk kv nv sv lv av])] (· = (Trm.mk k1 m1 s1 l1 a1).d) := by
    refine triD_of_runs Tryz.func48 rfl Tryz.ntmps48 (rs := [.cell 4 31]) rfl rfl rfl ?_
    refine sr ?_; refine oc (T := fun _ => False) (bx ti31 ?_ (hl := by simp only [List.length_cons, List.length_nil, Nat.reduceAdd]; rfl))
    refine oc (T := fun _ => False) (bx ti29 ?_ (hl := by simp only [List.length_cons, List.length_nil, Nat.reduceAdd]; rfl))
    refine oc (T := fun _ => False) (alc ti31 ?_ (hl := by simp only [List.length_cons, List.length_nil, Nat.reduceAdd]; rfl)); refine nx ?_; refine runs_seq ?_; refine sr ?_; refine o1 (ldb ti29 ?_); refine o1 (le1 us29 ?_); refine o1 (ieq ?_)
    refine nx ?_; refine cd (fun h1 => ?_) (fun h1 => ?_)
    · (try simp only [nrm, Int.reduceEq, Int.reduceNe, Int.reduceLT, Int.reduceLE] at h1); exfalso; rw [trms_len] at h1; simp at h1
    (try simp only [nrm, Int.reduceEq, Int.reduceNe, Int.reduceLT, Int.reduceLE] at h1); refine runs_skip ?_; refine seq_normal ?_; refine kp [4, 3, 2] ?_; refine sr ?_; refine o1 (ldb ti31 ?_); refine o1 (f_func ?_)
    refine oc (ck ca46 rfl rfl (hc) [1] rfl (boc .nil) (fid (fir .nil)) ?_); refine oc (sto ti31 ?_); refine nx ?_; refine runs_ret ?_; refine fin_ret ?_; refine fin_d ⟨_, _, rfl, (from_cell rfl rfl ti31 rfl rfl rfl rfl), rfl⟩ rfl ?_
    rfl
  rw [substT, hX]
  refine triD_of_runs Tryz.func13 rfl Tryz.ntmps13 (rs := [.cell 4 31]) rfl rfl rfl ?_
  refine sr ?_; refine oc (T := fun _ => False) (bx ti31 ?_ (hl := by simp only [List.length_cons, List.length_nil, Nat.reduceAdd]; rfl))
  refine oc (T := fun _ => False) (bx ti31 ?_ (hl := by simp only [List.length_cons, List.length_nil, Nat.reduceAdd]; rfl))
  refine oc (T := fun _ => False) (alc ti31 ?_ (hl := by simp only [List.length_cons, List.length_nil, Nat.reduceAdd]; rfl)); refine nx ?_; refine sr ?_; refine o1 (ldb ti31 ?_); refine o1 (ldb ti31 ?_)
  refine oc (T := fun _ => False) (op_lit sl29 [.tmp 6] ti31 rfl rfl rfl rfl rfl rfl rfl (by decide) (by decide) (by decide) (by simp only [List.length_cons, List.length_nil, Nat.reduceAdd]; rfl) rfl ?_)
  refine oc (cv ca48 rfl rfl (hi) (fid (fid .nil)) ?_); refine oc (sto ti31 ?_); refine nx ?_; refine runs_ret ?_; refine fin_ret ?_; refine fin_d ⟨_, _, rfl, (from_cell rfl rfl ti31 rfl rfl rfl rfl), rfl⟩ rfl ?_
  rfl
end Go.Proofs.YtneaancanfpdhaaGreatDoor
namespace Go.Proofs.YtneaancanfpdhaaGreatDoor
open Go Go.Vd Go.RowKit
attribute [local irreducible] Runs OpsR OpR FloatR AnyR AnyO
variable {g gl : Nat → List D}
theorem sizesL_take : ∀ {ls : List Lvl} {i : Nat} {l : Lvl}, ls[i]? = some l → sizes (ls.take (i + 1)) = sizes (ls.take i) + l.size
  | [], i, l, h => by simp at h
  | a :: r, 0, l, h => by simp at h; subst h; simp [sizes]
  | a :: r, i + 1, l, h => by
    have := sizesL_take (ls := r) (i := i) (l := l) (by simpa using h)
    simp only [List.take_succ_cons, sizes, this]; omega
theorem sizesL_take_le : ∀ (ls : List Lvl) (i : Nat), sizes (ls.take i) ≤ sizes ls
  | [], i => by simp
  | a :: r, 0 => by simp [sizes]
  | a :: r, i + 1 => by have := sizesL_take_le r i; simp only [List.take_succ_cons, sizes]; omega
theorem sizesT_take : ∀ {ls : List Trm} {i : Nat} {l : Trm}, ls[i]? = some l → sizesT (ls.take (i + 1)) = sizesT (ls.take i) + l.size
  | [], i, l, h => by simp at h
  | a :: r, 0, l, h => by simp at h; subst h; simp [sizesT]
  | a :: r, i + 1, l, h => by
    have := sizesT_take (ls := r) (i := i) (l := l) (by simpa using h)
    simp only [List.take_succ_cons, sizesT, this]; omega
theorem sizesT_take_le : ∀ (ls : List Trm) (i : Nat), sizesT (ls.take i) ≤ sizesT ls
  | [], i => by simp
  | a :: r, 0 => by simp [sizesT]
  | a :: r, i + 1 => by have := sizesT_take_le r i; simp only [List.take_succ_cons, sizesT]; omega
theorem size_getL : ∀ {l : List Lvl} {i : Nat} {t : Lvl}, l[i]? = some t → t.size ≤ sizes l
  | [], i, t, h => by simp at h
  | a :: r, 0, t, h => by simp at h; subst h; simp [sizes]
  | a :: r, i + 1, t, h => by
    have := size_getL (l := r) (i := i) (t := t) (by simpa using h)
    simp [sizes]; omega
theorem sizes_len' : ∀ l : List Lvl, l.length ≤ sizes l
  | [] => by simp
  | .mk k s args :: r => by have := sizes_len' r; simp [sizes, Lvl.size]; omega
theorem levelParts_spec : ∀ (n : Nat) (k : Int) (s : ByteArray) (args : List Lvl) (most : Int), (Lvl.mk k s args).size ≤ n → (Lvl.mk k s args).size ≤ 1099511627776 → 0 ≤ most → most ≤ 1099511627776 →
    TriD Tryz.prog gl 89 [(Lvl.mk k s args).d, .v (.int .i64 most)] fun d => ∃ r : Int, d = .v (.int .i64 r) ∧ 1 ≤ r ∧ r ≤ (Lvl.mk k s args).size ∧ (r ≤ most → r = (Lvl.mk k s args).size) := by
  intro n
  induction n with
  | zero => intro k s args most h; simp [Lvl.size] at h
  | succ n ih =>
    intro k s args most hsz hb hm0 hm1
    simp only [Lvl.size] at hsz hb
    have hal := lvls_len args
    have hsl := sizes_len' args
    refine triD_of_runs Tryz.func89 rfl Tryz.ntmps89 (rs := [.tmp 4]) rfl rfl rfl ?_
    refine sr ?_; refine oc (T := fun _ => False) (bx ti45 ?_ (hl := by simp only [List.length_cons, List.length_nil, Nat.reduceAdd]; rfl)); refine o1 (asg ?_); refine nx ?_; refine sr ?_; refine o1 (asg ?_); refine nx ?_; refine runs_seq ?_
    refine sr ?_; refine o1 (asg ?_); refine nx ?_; refine runs_block ?_; refine kp [6, 5, 2, 1] ?_
    apply runs_loop_c (ι := Nat × Int) (fun ⟨i, c⟩ => [(6, int i), (5, int c)]) [2, 1] (fun ⟨i, c⟩ => i ≤ args.length ∧ 1 ≤ c ∧ c ≤ 1 + sizes (args.take i) ∧ (c ≤ most → c = 1 + sizes (args.take i))) (fun ⟨i, c⟩ => args.length - i) ((0, 1))
    case hk => exact rfl
    case hI =>
      exact ⟨Nat.zero_le _, by omega, by simp [sizes], fun _ => by simp [sizes]⟩
    case hm =>
      refine mo ?_ (sly (sly (sly (sly slz))))
      repeat (first | exact boz | refine boc ?_)
    case h =>
      rintro ⟨i, c⟩ hinv
      try dsimp only at hinv
      refine kp [6, 5, 2, 1] ?_; refine runs_seq ?_; refine sr ?_; refine o1 (mv ?_); refine o1 (fdb ti45 ?_); refine o1 (ldb ti28 ?_); refine o1 (le1 us28 ?_); refine o1 (ilt ?_); refine o1 (mv ?_)
      apply ops_and (yt := 16) (d := 13) 3 rfl rfl rfl (.none rfl) rfl rfl
      case h1 =>
        intro hb11 hK
        have hc := hb11; (try simp only [nrm, Int.reduceEq, Int.reduceNe, Int.reduceLT, Int.reduceLE] at hc)
        refine gye ?_ (hbw := by exact hb11); refine o1 (mv ?_); refine gye ?_ (hbw := by exact hb11); refine o1 (mv ?_); refine gye ?_ (hbw := by exact hb11); refine o1 (ile ?_); exact hK [_, _, _] rfl rfl
      case h2 =>
        intro hb11 hK; refine gno ?_ (hbw := by exact hb11); refine gno ?_ (hbw := by exact hb11); refine gno ?_ (hbw := by exact hb11); exact hK [_, _, _] rfl
      refine nx ?_; refine cdf (fun h3 => ?_) (fun h3 => ?_)
      · (try simp only [nrm, Int.reduceEq, Int.reduceNe, Int.reduceLT, Int.reduceLE] at h3)
        refine runs_exit ?_; refine seq_exit ?_; refine seq_exit ?_; refine inb_exit ?_; refine seq_normal ?_; refine kp [5] ?_; refine sr ?_
        have hg2 := sizesL_take_le args i
        have hend : c ≤ most → i = args.length := (fun h => by omega)
        refine o1 (mv ?_); refine o1 (asg ?_); refine nx ?_; refine runs_ret ?_; refine fin_ret ?_; refine fin_d1 rfl rfl ?_
        exact ⟨c, rfl, hinv.2.1, by simp only [Lvl.size]; omega, fun h => by rw [hinv.2.2.2 h, hend h, List.take_length]; simp only [Lvl.size]; omega⟩
      (try simp only [nrm, Int.reduceEq, Int.reduceNe, Int.reduceLT, Int.reduceLE] at h3); refine runs_skip ?_; refine seq_normal ?_; refine runs_seq ?_; refine runs_block ?_; refine runs_seq ?_; refine kp [6, 5, 2, 1] ?_
      obtain ⟨k', s', a', hget⟩ := lvl_get (show i < args.length by omega)
      have hg1 := size_getL hget
      have hg2 := sizesL_take_le args i
      refine runs_region ?_; refine o1 (fdb ti45 ?_); refine o1 (ldb ti28 ?_); refine o1 (mv ?_); refine o1 (ixs us28 te28 ?_ (he := by exact (lvl_at hget))); refine o1 (ldc ti45 ?_); refine o1 (mv ?_); refine o1 (mv ?_); refine o1 (isu ?_)
      refine oc (T := fun _ => False) (op_call ca89 rfl rfl rfl rfl (ih k' s' a' (most - c) (by omega) (by omega) (by omega) (by omega)) (fid (fir .nil)) (fun d hd => ?_)); obtain ⟨r, rfl, hr1, hr2, hr3⟩ := hd; refine o1 (asg ?_); refine nx ?_
      refine kp [7, 6, 5, 2, 1] ?_; refine runs_region ?_; refine o1 (mv ?_); refine o1 (mv ?_); refine o1 (iad ?_); refine o1 (asg ?_); refine ops_nil ?_; refine inb_normal ?_; refine seq_normal ?_; refine kp [5, 6, 2, 1] ?_
      refine runs_region ?_; refine o1 (mv ?_); refine o1 (iad ?_); refine o1 (asg ?_); refine ops_nil ?_; refine seq_back ?_; refine back_i ((i + 1, c + r)) rfl ?_ ?_
      · exact ⟨⟨by omega, by omega, by rw [sizesL_take hget]; omega, fun h => by rw [sizesL_take hget]; omega⟩, show args.length - (i + 1) < args.length - i by omega⟩
      · refine mo ?_ (sly (sly (sly (sly slz))))
        repeat (first | exact boz | refine boc ?_)
theorem parts_spec : ∀ (n : Nat) (k m : Int) (s : ByteArray) (ls : List Lvl) (args : List Trm) (most : Int), (Trm.mk k m s ls args).size ≤ n → (Trm.mk k m s ls args).size ≤ 1099511627776 → 0 ≤ most → most ≤ 1099511627776 →
    TriD Tryz.prog gl 44 [(Trm.mk k m s ls args).d, .v (.int .i64 most)] fun d => ∃ r : Int, d = .v (.int .i64 r) ∧ 1 ≤ r ∧ r ≤ (Trm.mk k m s ls args).size ∧ (r ≤ most → r = (Trm.mk k m s ls args).size) := by
  intro n
  induction n with
  | zero => intro k m s ls args most h; simp [Trm.size] at h
  | succ n ih =>
    intro k m s ls args most hsz hb hm0 hm1
    simp only [Trm.size] at hsz hb
    have hal := trms_len args
    have hll := lvls_len ls
    have hsl := sizes_len' ls
    have hsa := sizesT_len args
    refine triD_of_runs Tryz.func44 rfl Tryz.ntmps44 (rs := [.tmp 4]) rfl rfl rfl ?_
    refine sr ?_; refine oc (T := fun _ => False) (bx ti31 ?_ (hl := by simp only [List.length_cons, List.length_nil, Nat.reduceAdd]; rfl)); refine o1 (asg ?_); refine nx ?_; refine sr ?_; refine o1 (asg ?_); refine nx ?_; refine runs_seq ?_
    refine sr ?_; refine o1 (asg ?_); refine nx ?_; refine runs_block ?_; refine kp [6, 5, 2, 1] ?_
    apply runs_loop_c (ι := Nat × Int) (fun ⟨i, c⟩ => [(6, int i), (5, int c)]) [2, 1] (fun ⟨i, c⟩ => i ≤ ls.length ∧ 1 ≤ c ∧ c ≤ 1 + sizes (ls.take i) ∧ (c ≤ most → c = 1 + sizes (ls.take i))) (fun ⟨i, c⟩ => ls.length - i) ((0, 1))
    case hk => exact rfl
    case hI =>
      exact ⟨Nat.zero_le _, by omega, by simp [sizes], fun _ => by simp [sizes]⟩
    case hm =>
      refine mo ?_ (sly (sly (sly (sly slz))))
      repeat (first | exact boz | refine boc ?_)
    case h =>
      rintro ⟨i, c⟩ hinv
      try dsimp only at hinv
      refine kp [6, 5, 2, 1] ?_; refine runs_seq ?_; refine sr ?_; refine o1 (mv ?_); refine o1 (fdb ti31 ?_); refine o1 (ldb ti28 ?_); refine o1 (le1 us28 ?_); refine o1 (ilt ?_); refine o1 (mv ?_)
      apply ops_and (yt := 18) (d := 15) 3 rfl rfl rfl (.none rfl) rfl rfl
      case h1 =>
        intro hb11 hK
        have hc := hb11; (try simp only [nrm, Int.reduceEq, Int.reduceNe, Int.reduceLT, Int.reduceLE] at hc)
        refine gye ?_ (hbw := by exact hb11); refine o1 (mv ?_); refine gye ?_ (hbw := by exact hb11); refine o1 (mv ?_); refine gye ?_ (hbw := by exact hb11); refine o1 (ile ?_); exact hK [_, _, _] rfl rfl
      case h2 =>
        intro hb11 hK; refine gno ?_ (hbw := by exact hb11); refine gno ?_ (hbw := by exact hb11); refine gno ?_ (hbw := by exact hb11); exact hK [_, _, _] rfl
      refine nx ?_; refine cd (fun h3 => ?_) (fun h3 => ?_)
      · (try simp only [nrm, Int.reduceEq, Int.reduceNe, Int.reduceLT, Int.reduceLE] at h3)
        refine runs_skip ?_; refine seq_normal ?_; refine runs_seq ?_; refine runs_block ?_; refine runs_seq ?_; refine kp [6, 5, 2, 1] ?_; obtain ⟨k', s', a', hget⟩ := lvl_get (show i < ls.length by omega)
        have hg1 := size_getL hget
        have hg2 := sizesL_take_le ls i
        refine runs_region ?_; refine o1 (fdb ti31 ?_); refine o1 (ldb ti28 ?_); refine o1 (mv ?_); refine o1 (ixs us28 te28 ?_ (he := by exact (lvl_at hget))); refine o1 (ldc ti45 ?_); refine o1 (mv ?_); refine o1 (mv ?_); refine o1 (isu ?_)
        refine oc (T := fun _ => False) (op_call ca89 rfl rfl rfl rfl (levelParts_spec _ k' s' a' (most - c) (Nat.le_refl _) (by omega) (by omega) (by omega)) (fid (fir .nil)) (fun d hd => ?_)); obtain ⟨r, rfl, hr1, hr2, hr3⟩ := hd
        refine o1 (asg ?_); refine nx ?_; refine kp [7, 6, 5, 2, 1] ?_; refine runs_region ?_; refine o1 (mv ?_); refine o1 (mv ?_); refine o1 (iad ?_); refine o1 (asg ?_); refine ops_nil ?_; refine inb_normal ?_; refine seq_normal ?_
        refine kp [5, 6, 2, 1] ?_; refine runs_region ?_; refine o1 (mv ?_); refine o1 (iad ?_); refine o1 (asg ?_); refine ops_nil ?_; refine seq_back ?_; refine back_i ((i + 1, c + r)) rfl ?_ ?_
        · exact ⟨⟨by omega, by omega, by rw [sizesL_take hget]; omega, fun h => by rw [sizesL_take hget]; omega⟩, show ls.length - (i + 1) < ls.length - i by omega⟩
        · refine mo ?_ (sly (sly (sly (sly slz))))
          repeat (first | exact boz | refine boc ?_)
      (try simp only [nrm, Int.reduceEq, Int.reduceNe, Int.reduceLT, Int.reduceLE] at h3); refine runs_exit ?_; refine seq_exit ?_; refine seq_exit ?_; refine inb_exit ?_; refine seq_normal ?_; refine runs_seq ?_; refine runs_seq ?_
      refine kp [5, 2, 1] ?_
      have hg3 := sizesL_take_le ls i
      have hc2 : c ≤ 1 + sizes ls := (by omega)
      have hc3 : c ≤ most → c = 1 + sizes ls := (fun h => by
        have h4 : i = ls.length := by omega
        rw [hinv.2.2.2 h, h4, List.take_length])
      have hc1 := hinv.2.1
      refine runs_region ?_; refine o1 (asg ?_); refine nx ?_; refine runs_block ?_
      apply runs_loop_c (ι := Nat × Int) (fun ⟨j, e⟩ => [(8, int j), (5, int e)]) [2, 1] (fun ⟨j, e⟩ => j ≤ args.length ∧ 1 ≤ e ∧ e ≤ 1 + sizes ls + sizesT (args.take j) ∧ (e ≤ most → e = 1 + sizes ls + sizesT (args.take j))) (fun ⟨j, e⟩ => args.length - j) ((0, c))
      case hk => exact rfl
      case hI =>
        exact ⟨Nat.zero_le _, hc1, by simp [sizesT]; omega, fun h => by simp [sizesT]; exact hc3 h⟩
      case hm =>
        refine mo ?_ (sly (sly (sly (sly slz))))
        repeat (first | exact boz | refine boc ?_)
      case h =>
        rintro ⟨j, e⟩ hinv
        try dsimp only at hinv
        refine kp [8, 5, 2, 1] ?_; refine runs_seq ?_; refine sr ?_; refine o1 (mv ?_); refine o1 (fdb ti31 ?_); refine o1 (ldb ti29 ?_); refine o1 (le1 us29 ?_); refine o1 (ilt ?_); refine o1 (mv ?_)
        apply ops_and (yt := 42) (d := 39) 3 rfl rfl rfl (.none rfl) rfl rfl
        case h1 =>
          intro hb11 hK
          have hc := hb11; (try simp only [nrm, Int.reduceEq, Int.reduceNe, Int.reduceLT, Int.reduceLE] at hc)
          refine gye ?_ (hbw := by exact hb11); refine o1 (mv ?_); refine gye ?_ (hbw := by exact hb11); refine o1 (mv ?_); refine gye ?_ (hbw := by exact hb11); refine o1 (ile ?_); exact hK [_, _, _] rfl rfl
        case h2 =>
          intro hb11 hK; refine gno ?_ (hbw := by exact hb11); refine gno ?_ (hbw := by exact hb11); refine gno ?_ (hbw := by exact hb11); exact hK [_, _, _] rfl
        refine nx ?_; refine cdf (fun h8 => ?_) (fun h8 => ?_)
        · (try simp only [nrm, Int.reduceEq, Int.reduceNe, Int.reduceLT, Int.reduceLE] at h8)
          refine runs_exit ?_; refine seq_exit ?_; refine seq_exit ?_; refine inb_exit ?_; refine seq_normal ?_; refine kp [5] ?_; refine sr ?_
          have hg2 := sizesT_take_le args j
          have hend : e ≤ most → j = args.length := (fun h => by omega)
          refine o1 (mv ?_); refine o1 (asg ?_); refine nx ?_; refine runs_ret ?_; refine fin_ret ?_; refine fin_d1 rfl rfl ?_
          exact ⟨e, rfl, hinv.2.1, by simp only [Trm.size]; omega, fun h => by rw [hinv.2.2.2 h, hend h, List.take_length]; simp only [Trm.size]; omega⟩
        (try simp only [nrm, Int.reduceEq, Int.reduceNe, Int.reduceLT, Int.reduceLE] at h8); refine runs_skip ?_; refine seq_normal ?_; refine runs_seq ?_; refine runs_block ?_; refine runs_seq ?_; refine kp [8, 5, 2, 1] ?_
        obtain ⟨k2, m2, s2, l2, a2, hget⟩ := trm_get (show j < args.length by omega)
        have hg1 := sizeT_get hget
        have hg2 := sizesT_take_le args j
        refine runs_region ?_; refine o1 (fdb ti31 ?_); refine o1 (ldb ti29 ?_); refine o1 (mv ?_); refine o1 (ixs us29 te29 ?_ (he := by exact (trm_at hget))); refine o1 (ldc ti31 ?_); refine o1 (mv ?_); refine o1 (mv ?_); refine o1 (isu ?_)
        refine oc (T := fun _ => False) (op_call ca44 rfl rfl rfl rfl (ih k2 m2 s2 l2 a2 (most - e) (by omega) (by omega) (by omega) (by omega)) (fid (fir .nil)) (fun d hd => ?_)); obtain ⟨r, rfl, hr1, hr2, hr3⟩ := hd; refine o1 (asg ?_)
        refine nx ?_; refine kp [9, 8, 5, 2, 1] ?_; refine runs_region ?_; refine o1 (mv ?_); refine o1 (mv ?_); refine o1 (iad ?_); refine o1 (asg ?_); refine ops_nil ?_; refine inb_normal ?_; refine seq_normal ?_; refine kp [5, 8, 2, 1] ?_
        refine runs_region ?_; refine o1 (mv ?_); refine o1 (iad ?_); refine o1 (asg ?_); refine ops_nil ?_; refine seq_back ?_; refine back_i ((j + 1, e + r)) rfl ?_ ?_
        · exact ⟨⟨by omega, by omega, by rw [sizesT_take hget]; omega, fun h => by rw [sizesT_take hget]; omega⟩, show args.length - (j + 1) < args.length - j by omega⟩
        · refine mo ?_ (sly (sly (sly (sly slz))))
          repeat (first | exact boz | refine boc ?_)
theorem binds_spec (k m : Int) (s : ByteArray) (ls : List Lvl) (args : List Trm) (i : Int) (hb : args.length ≤ 1099511627776) : TriD Tryz.prog gl 56 [(Trm.mk k m s ls args).d, .v (.int .i64 i)] fun d => ∃ b : Bool, d = .v (.bool b) := by
  have hal := trms_len args
  refine triD_of_runs Tryz.func56 rfl Tryz.ntmps56 (rs := [.tmp 4]) rfl rfl rfl ?_
  refine sr ?_; refine oc (T := fun _ => False) (bx ti31 ?_ (hl := by simp only [List.length_cons, List.length_nil, Nat.reduceAdd]; rfl)); refine o1 (asg ?_); refine nx ?_; refine sr ?_; refine o1 (fdb ti31 ?_); refine o1 (ldb ti3 ?_)
  refine o1 (ige ?_); refine o1 (mv ?_)
  apply ops_and (yt := 14) (d := 8) 6 rfl rfl rfl (.none rfl) rfl rfl
  case h1 =>
    intro hb7 hK
    have hc := hb7; (try simp only [nrm, Int.reduceEq, Int.reduceNe, Int.reduceLT, Int.reduceLE] at hc)
    refine gye ?_ (hbw := by exact hb7); refine o1 (mv ?_); refine gye ?_ (hbw := by exact hb7); refine o1 (fdb ti31 ?_); refine gye ?_ (hbw := by exact hb7); refine o1 (ldb ti29 ?_); refine gye ?_ (hbw := by exact hb7); refine o1 (le1 us29 ?_)
    refine gye ?_ (hbw := by exact hb7); refine o1 (isu ?_); refine gye ?_ (hbw := by exact hb7); refine o1 (ieq ?_); exact hK [_, _, _, _, _, _] rfl rfl
  case h2 =>
    intro hb7 hK; refine gno ?_ (hbw := by exact hb7); refine gno ?_ (hbw := by exact hb7); refine gno ?_ (hbw := by exact hb7); refine gno ?_ (hbw := by exact hb7); refine gno ?_ (hbw := by exact hb7); refine gno ?_ (hbw := by exact hb7)
    exact hK [_, _, _, _, _, _] rfl
  refine o1 (asg ?_); refine nx ?_; refine runs_ret ?_; refine fin_ret ?_; refine fin_d1 rfl rfl ?_; exact ⟨_, rfl⟩
theorem uses_spec : ∀ (n : Nat) (k m : Int) (s : ByteArray) (ls : List Lvl) (args : List Trm) (v : Int), (Trm.mk k m s ls args).size ≤ n → (Trm.mk k m s ls args).size ≤ 1099511627776 → 0 ≤ v → v + (Trm.mk k m s ls args).size ≤ 2199023255552 →
    TriD Tryz.prog gl 45 [(Trm.mk k m s ls args).d, .v (.int .i64 v)] fun d => ∃ r : Int, d = .v (.int .i64 r) ∧ 0 ≤ r ∧ r ≤ (Trm.mk k m s ls args).size := by
  intro n
  induction n with
  | zero => intro k m s ls args v h; simp [Trm.size] at h
  | succ n ih =>
    intro k m s ls args v hsz hb hv0 hv1
    simp only [Trm.size] at hsz hb hv1
    have hal := trms_len args
    have hsa := sizesT_len args
    refine triD_of_runs Tryz.func45 rfl Tryz.ntmps45 (rs := [.tmp 4]) rfl rfl rfl ?_
    refine sr ?_; refine oc (T := fun _ => False) (bx ti31 ?_ (hl := by simp only [List.length_cons, List.length_nil, Nat.reduceAdd]; rfl)); refine o1 (asg ?_); refine nx ?_; refine runs_seq ?_; refine sr ?_; refine o1 (fdb ti31 ?_)
    refine o1 (ldb ti3 ?_); refine o1 (ieq ?_); refine o1 (mv ?_)
    apply ops_and (yt := 16) (d := 12) 4 rfl rfl rfl (.none rfl) rfl rfl
    case h1 =>
      intro hb7 hK
      have hc := hb7; (try simp only [nrm, Int.reduceEq, Int.reduceNe, Int.reduceLT, Int.reduceLE] at hc)
      refine gye ?_ (hbw := by exact hb7); refine o1 (fdb ti31 ?_); refine gye ?_ (hbw := by exact hb7); refine o1 (ldb ti3 ?_); refine gye ?_ (hbw := by exact hb7); refine o1 (mv ?_); refine gye ?_ (hbw := by exact hb7); refine o1 (ieq ?_)
      exact hK [_, _, _, _] rfl rfl
    case h2 =>
      intro hb7 hK; refine gno ?_ (hbw := by exact hb7); refine gno ?_ (hbw := by exact hb7); refine gno ?_ (hbw := by exact hb7); refine gno ?_ (hbw := by exact hb7); exact hK [_, _, _, _] rfl
    refine nx ?_; refine cd (fun h1 => ?_) (fun h1 => ?_)
    · (try simp only [nrm, Int.reduceEq, Int.reduceNe, Int.reduceLT, Int.reduceLE] at h1)
      refine kp [] ?_; refine sr ?_; refine o1 (asg ?_); refine nx ?_; refine runs_ret ?_; refine seq_ret ?_; refine fin_ret ?_; refine fin_d1 rfl rfl ?_; exact ⟨1, rfl, by omega, by simp only [Trm.size]; omega⟩
    (try simp only [nrm, Int.reduceEq, Int.reduceNe, Int.reduceLT, Int.reduceLE] at h1); refine runs_skip ?_; refine seq_normal ?_; refine kp [2, 1] ?_; refine sr ?_; refine o1 (asg ?_); refine nx ?_; refine runs_seq ?_; refine sr ?_
    refine o1 (asg ?_); refine nx ?_; refine runs_block ?_
    apply runs_loop_c (ι := Nat × Int) (fun ⟨i, c⟩ => [(6, int i), (5, int c)]) [2, 1] (fun ⟨i, c⟩ => i ≤ args.length ∧ 0 ≤ c ∧ c ≤ sizesT (args.take i)) (fun ⟨i, c⟩ => args.length - i) ((0, 0))
    case hk => exact rfl
    case hI =>
      exact ⟨Nat.zero_le _, by omega, by simp [sizesT]⟩
    case hm =>
      refine mo ?_ (sly (sly (sly (sly slz))))
      repeat (first | exact boz | refine boc ?_)
    case h =>
      rintro ⟨i, c⟩ hinv
      try dsimp only at hinv
      refine kp [6, 5, 2, 1] ?_; refine runs_seq ?_; refine sr ?_; refine o1 (mv ?_); refine o1 (fdb ti31 ?_); refine o1 (ldb ti29 ?_); refine o1 (le1 us29 ?_); refine o1 (ilt ?_); refine nx ?_; refine cdf (fun h5 => ?_) (fun h5 => ?_)
      · (try simp only [nrm, Int.reduceEq, Int.reduceNe, Int.reduceLT, Int.reduceLE] at h5)
        refine runs_exit ?_; refine seq_exit ?_; refine seq_exit ?_; refine inb_exit ?_; refine seq_normal ?_; refine kp [5] ?_; refine sr ?_
        have hg2 := sizesT_take_le args i
        refine o1 (mv ?_); refine o1 (asg ?_); refine nx ?_; refine runs_ret ?_; refine fin_ret ?_; refine fin_d1 rfl rfl ?_; exact ⟨c, rfl, hinv.2.1, by simp only [Trm.size]; omega⟩
      (try simp only [nrm, Int.reduceEq, Int.reduceNe, Int.reduceLT, Int.reduceLE] at h5); refine runs_skip ?_; refine seq_normal ?_; refine runs_seq ?_; refine runs_block ?_; refine runs_seq ?_; refine kp [6, 5, 2, 1] ?_
      obtain ⟨k2, m2, s2, l2, a2, hget⟩ := trm_get (show i < args.length by omega)
      have hg1 := sizeT_get hget
      have hg2 := sizesT_take_le args i
      refine runs_region ?_; refine o1 (mv ?_); refine o1 (asg ?_); refine nx ?_; refine runs_seq ?_; refine sr ?_; refine o1 (ldb ti31 ?_); refine o1 (mv ?_)
      refine oc (T := fun _ => False) (op_call ca56 rfl rfl rfl rfl (binds_spec k m s ls args i (by omega)) (fid (fir .nil)) (fun d hd => ?_)); obtain ⟨bb, rfl⟩ := hd; refine nx ?_; refine kp [28, 7, 6, 5, 2, 1] ?_
      apply runs_cut_c (ι := Int) (fun w => [(7, int w)]) [6, 5, 2, 1] (fun w => v ≤ w ∧ w ≤ v + 1)
      case hk => exact rfl
      case h1 =>
        refine cdf (fun h8 => ?_) (fun h8 => ?_)
        · (try simp only [nrm, Int.reduceEq, Int.reduceNe, Int.reduceLT, Int.reduceLE] at h8)
          refine runs_skip ?_; refine seq_back ?_; refine back_i (v) rfl ?_ ?_
          · exact ⟨by omega, by omega⟩
          · refine mo ?_ (sly (sly (sly (sly (sly slz)))))
            repeat (first | exact boz | refine boc ?_)
        (try simp only [nrm, Int.reduceEq, Int.reduceNe, Int.reduceLT, Int.reduceLE] at h8); refine runs_region ?_; refine o1 (mv ?_); refine o1 (iad ?_); refine o1 (asg ?_); refine ops_nil ?_; refine seq_back ?_; refine back_i (v + 1) rfl ?_ ?_
        · exact ⟨by omega, by omega⟩
        · refine mo ?_ (sly (sly (sly (sly (sly slz)))))
          repeat (first | exact boz | refine boc ?_)
      case h2 =>
        rintro w hcut
        try dsimp only at hcut
        refine kp [7, 6, 5, 2, 1] ?_; refine sr ?_; refine o1 (fdb ti31 ?_); refine o1 (ldb ti29 ?_); refine o1 (mv ?_); refine o1 (ixs us29 te29 ?_ (he := by exact (trm_at hget))); refine o1 (ldc ti31 ?_); refine o1 (mv ?_)
        refine oc (T := fun _ => False) (op_call ca45 rfl rfl rfl rfl (ih k2 m2 s2 l2 a2 w (by omega) (by omega) (by omega) (by omega)) (fid (fir .nil)) (fun d hd => ?_)); obtain ⟨r, rfl, hr1, hr2⟩ := hd; refine o1 (asg ?_); refine nx ?_
        refine kp [8, 6, 5, 2, 1] ?_; refine runs_region ?_; refine o1 (mv ?_); refine o1 (mv ?_); refine o1 (iad ?_); refine o1 (asg ?_); refine ops_nil ?_; refine inb_normal ?_; refine seq_normal ?_; refine kp [5, 6, 2, 1] ?_
        refine runs_region ?_; refine o1 (mv ?_); refine o1 (iad ?_); refine o1 (asg ?_); refine ops_nil ?_; refine seq_back ?_; refine back_i ((i + 1, c + r)) rfl ?_ ?_
        · exact ⟨⟨by omega, by omega, by rw [sizesT_take hget]; omega⟩, show args.length - (i + 1) < args.length - i by omega⟩
        · refine mo ?_ (sly (sly (sly (sly slz))))
          repeat (first | exact boz | refine boc ?_)
theorem much_spec (k m : Int) (s : ByteArray) (ls : List Lvl) (args : List Trm) (k2 m2 : Int) (s2 : ByteArray) (ls2 : List Lvl) (args2 : List Trm) (hs1 : (Trm.mk k m s ls args).size ≤ 1099511627776) (hs2 : (Trm.mk k2 m2 s2 ls2 args2).size ≤ 1099511627776) :
    TriD Tryz.prog gl 10 [(Trm.mk k m s ls args).d, (Trm.mk k2 m2 s2 ls2 args2).d] fun d => ∃ b : Bool, d = .v (.bool b) ∧ (b = false → (Trm.mk k m s ls args).size ≤ 20000) := by
  refine triD_of_runs Tryz.func10 rfl Tryz.ntmps10 (rs := [.tmp 4]) rfl rfl rfl ?_
  refine sr ?_; refine oc (T := fun _ => False) (bx ti31 ?_ (hl := by simp only [List.length_cons, List.length_nil, Nat.reduceAdd]; rfl))
  refine oc (T := fun _ => False) (bx ti31 ?_ (hl := by simp only [List.length_cons, List.length_nil, Nat.reduceAdd]; rfl)); refine o1 (asg ?_); refine nx ?_; refine sr ?_; refine o1 (ldb ti31 ?_)
  refine oc (T := fun _ => False) (op_call ca44 rfl rfl rfl rfl (parts_spec _ k m s ls args 20000 (Nat.le_refl _) hs1 (by omega) (by omega)) (fid (fir .nil)) (fun d hd => ?_)); obtain ⟨r, rfl, hr1, hr2, hr3⟩ := hd; refine o1 (asg ?_)
  refine nx ?_; refine runs_seq ?_; refine kp [5, 3, 2] ?_; refine sr ?_; refine o1 (mv ?_); refine o1 (igt ?_); refine nx ?_; refine cd (fun h2 => ?_) (fun h2 => ?_)
  · (try simp only [nrm, Int.reduceEq, Int.reduceNe, Int.reduceLT, Int.reduceLE] at h2)
    refine kp [] ?_; refine sr ?_; refine o1 (asg ?_); refine nx ?_; refine runs_ret ?_; refine seq_ret ?_; refine fin_ret ?_; refine fin_d1 rfl rfl ?_; exact ⟨true, rfl, fun h => by cases h⟩
  (try simp only [nrm, Int.reduceEq, Int.reduceNe, Int.reduceLT, Int.reduceLE] at h2); refine runs_skip ?_; refine seq_normal ?_; refine sr ?_; refine o1 (ldb ti31 ?_)
  refine oc (T := fun _ => False) (op_call ca45 rfl rfl rfl rfl (uses_spec _ k m s ls args 0 (Nat.le_refl _) hs1 (by omega) (by omega)) (fid (fir .nil)) (fun d hd => ?_)); obtain ⟨u, rfl, hu1, hu2⟩ := hd; refine o1 (asg ?_); refine nx ?_
  refine kp [6, 5, 3] ?_; refine sr ?_; refine o1 (ldb ti31 ?_); refine oc (T := fun _ => False) (op_call ca44 rfl rfl rfl rfl (parts_spec _ k2 m2 s2 ls2 args2 20000 (Nat.le_refl _) hs2 (by omega) (by omega)) (fid (fir .nil)) (fun d hd => ?_))
  obtain ⟨q, rfl, hq1, hq2, hq3⟩ := hd; refine o1 (asg ?_); refine nx ?_; refine runs_seq ?_
  have hmul : 0 ≤ u * q := Int.mul_nonneg hu1 (by omega)
  have hmul2 : u * q ≤ 20000 * 1099511627776 := Int.mul_le_mul (by omega) (by omega) (by omega) (by omega)
  refine runs_region ?_; refine o1 (mv ?_); refine o1 (mv ?_); refine o1 (mv ?_); refine o1 (fl_mul rfl rfl rfl (by omega) ?_); refine o1 (iad ?_); refine o1 (igt ?_); refine o1 (asg ?_); refine nx ?_; refine runs_ret ?_; refine fin_ret ?_
  refine fin_d1 rfl rfl ?_; exact ⟨_, rfl, fun _ => by omega⟩
end Go.Proofs.YtneaancanfpdhaaGreatDoor
namespace Go.Proofs.YtneaancanfpdhaaGreatDoor
open Go Go.Vd Go.RowKit
attribute [local irreducible] Runs OpsR OpR FloatR AnyR AnyO
variable {g gl : Nat → List D}
theorem dig_lit (n : Nat) : [[D.v (.int .u8 (IntKind.wrap .u8 (48 + (n : Int) % 10)))]] = bytesD ⟨#[UInt8.ofNat (48 + n % 10)]⟩ := by
  have h : IntKind.wrap .u8 (48 + (n : Int) % 10) = ((UInt8.ofNat (48 + n % 10)).toNat : Int) := by
    unfold IntKind.wrap
    simp [IntKind.bits, IntKind.signed]
  rw [h]; rfl
theorem digits_spec (n : Nat) (hn : n ≤ 1099511627776) : TriD Tryz.prog gl 68 [.v (.int .i64 n)] (· = .v (.string (digR n))) := by
  induction n using Nat.strongRecOn with
  | _ n ih =>
    have hsz := digR_size (n / 10)
    have h1s : (ByteArray.mk #[UInt8.ofNat (48 + n % 10)]).size = 1 := rfl
    refine triD_of_runs Tryz.func68 rfl Tryz.ntmps68 (rs := [.tmp 2]) rfl rfl rfl ?_
    refine sr ?_; refine o1 (asg ?_); refine nx ?_; refine sr ?_; refine o1 (mv ?_); refine o1 (f_rem ?_); refine o1 (iad ?_); refine o1 (fl_conv ui5 uo3 rfl rfl ?_)
    refine oc (T := fun _ => False) (op_lit sl89 [.tmp 7] ti5 rfl rfl rfl rfl rfl rfl rfl (by decide) (by decide) (by decide) (by simp only [List.length_cons, List.length_nil, Nat.reduceAdd]; rfl) rfl ?_)
    refine o1 (fl_bytes_str sl89.under ui5 ut9 rfl rfl (dig_lit n) (by intro e; have := congrArg ByteArray.size e; rw [h1s] at this; cases this) ?_); refine o1 (asg ?_); refine nx ?_; refine runs_seq ?_; refine kp [3, 0] ?_; refine sr ?_
    refine o1 (mv ?_); refine o1 (ilt ?_); refine nx ?_; refine cd (fun h2 => ?_) (fun h2 => ?_)
    · (try simp only [nrm, Int.reduceEq, Int.reduceNe, Int.reduceLT, Int.reduceLE] at h2)
      refine sr ?_; refine o1 (mv ?_); refine o1 (asg ?_); refine nx ?_; refine runs_ret ?_; refine seq_ret ?_; refine fin_ret ?_; refine fin_d1 rfl rfl ?_
      rw [digR_one (by omega)]
    (try simp only [nrm, Int.reduceEq, Int.reduceNe, Int.reduceLT, Int.reduceLE] at h2); refine runs_skip ?_; refine seq_normal ?_; refine sr ?_; refine o1 (mv ?_); refine o1 (fl_quo rfl rfl rfl (by omega) ?_)
    refine oc (cv ca68 rfl rfl (ih (n / 10) (by omega) (by omega)) (fir .nil) ?_); refine o1 (mv ?_); refine o1 (f_sadd ?_ (hb := by (try simp only [ByteArray.size_append, size_mk, List.size_toArray, List.length_cons, List.length_nil]); omega))
    refine o1 (asg ?_); refine nx ?_; refine runs_ret ?_; refine fin_ret ?_; refine fin_d1 rfl rfl ?_
    rw [digR_more (n := n) (by omega)]
end Go.Proofs.YtneaancanfpdhaaGreatDoor
namespace Go.Proofs.YtneaancanfpdhaaGreatDoor
open Go Go.Vd Go.RowKit
attribute [local irreducible] Runs OpsR OpR FloatR AnyR
variable {gl : Nat → List D}
theorem printLevel_spec : ∀ x : Lev, x.weight ≤ 1099511627776 →
    TriD Tryz.prog gl 69 [x.toLvl.d] (· = .v (.string x.print)) := by
  intro x
  induction x with
  | zero =>
    intro hsz
    refine triD_of_runs Tryz.func69 rfl Tryz.ntmps69 (rs := [.tmp 2]) rfl rfl rfl ?_
    refine sr ?_; refine oc (T := fun _ => False) (bx ti45 ?_ (hl := by simp only [List.length_cons, List.length_nil, Nat.reduceAdd]; rfl)); refine o1 (asg ?_); refine nx ?_; refine runs_seq ?_; refine sr ?_; refine o1 (fdb ti45 ?_)
    refine o1 (ldb ti3 ?_); refine nx ?_; refine runs_block ?_; refine sr ?_; refine o1 (ieq ?_); refine o1 (asg ?_); refine nx ?_; refine cdf (fun h2 => ?_) (fun h2 => ?_)
    · simp only [nrm, Int.reduceEq, Int.reduceNe, Int.reduceLT, Int.reduceLE] at h2
    (try simp only [nrm, Int.reduceEq, Int.reduceNe, Int.reduceLT, Int.reduceLE] at h2); refine kp [] ?_; refine sr ?_; refine o1 (asg ?_); refine nx ?_; refine runs_ret ?_; refine inb_ret ?_; refine seq_ret ?_; refine fin_ret ?_
    refine fin_d1 rfl rfl ?_
    rfl
  | succ a ih =>
    intro hsz
    simp only [Lev.weight] at hsz
    have h9 := a.print_size
    refine triD_of_runs Tryz.func69 rfl Tryz.ntmps69 (rs := [.tmp 2]) rfl rfl rfl ?_
    refine sr ?_; refine oc (T := fun _ => False) (bx ti45 ?_ (hl := by simp only [List.length_cons, List.length_nil, Nat.reduceAdd]; rfl)); refine o1 (asg ?_); refine nx ?_; refine runs_seq ?_; refine sr ?_; refine o1 (fdb ti45 ?_)
    refine o1 (ldb ti3 ?_); refine nx ?_; refine runs_block ?_; refine sr ?_; refine o1 (ieq ?_); refine o1 (asg ?_); refine nx ?_; refine cd (fun h2 => ?_) (fun h2 => ?_)
    · simp only [nrm, Int.reduceEq, Int.reduceNe, Int.reduceLT, Int.reduceLE] at h2
    (try simp only [nrm, Int.reduceEq, Int.reduceNe, Int.reduceLT, Int.reduceLE] at h2); refine kp [5, 1] ?_; refine sr ?_; refine o1 (ieq ?_); refine o1 (asg ?_); refine nx ?_; refine cdf (fun h4 => ?_) (fun h4 => ?_)
    · simp only [nrm, Int.reduceEq, Int.reduceNe, Int.reduceLT, Int.reduceLE] at h4
    (try simp only [nrm, Int.reduceEq, Int.reduceNe, Int.reduceLT, Int.reduceLE] at h4); refine sr ?_; refine o1 (fdb ti45 ?_); refine o1 (ldb ti28 ?_); refine o1 (ixs us28 te28 ?_ (he := by exact (rfl)))
    refine o1 (lda ti45 ?_ (hlen := by exact (Lvl.cells_len _))); refine oc (cv ca69 rfl rfl (ih (by omega)) (fir .nil) ?_)
    refine o1 (f_sadd ?_ (hb := by (try simp only [ByteArray.size_append, size_mk, List.size_toArray, List.length_cons, List.length_nil]); omega))
    refine o1 (f_sadd ?_ (hb := by (try simp only [ByteArray.size_append, size_mk, List.size_toArray, List.length_cons, List.length_nil]); omega)); refine o1 (asg ?_); refine nx ?_; refine runs_ret ?_; refine inb_ret ?_; refine seq_ret ?_
    refine fin_ret ?_; refine fin_d1 rfl rfl ?_
    rfl
  | max a b iha ihb =>
    intro hsz
    simp only [Lev.weight] at hsz
    have h9 := a.print_size
    have h10 := b.print_size
    refine triD_of_runs Tryz.func69 rfl Tryz.ntmps69 (rs := [.tmp 2]) rfl rfl rfl ?_
    refine sr ?_; refine oc (T := fun _ => False) (bx ti45 ?_ (hl := by simp only [List.length_cons, List.length_nil, Nat.reduceAdd]; rfl)); refine o1 (asg ?_); refine nx ?_; refine runs_seq ?_; refine sr ?_; refine o1 (fdb ti45 ?_)
    refine o1 (ldb ti3 ?_); refine nx ?_; refine runs_block ?_; refine sr ?_; refine o1 (ieq ?_); refine o1 (asg ?_); refine nx ?_; refine cd (fun h2 => ?_) (fun h2 => ?_)
    · simp only [nrm, Int.reduceEq, Int.reduceNe, Int.reduceLT, Int.reduceLE] at h2
    (try simp only [nrm, Int.reduceEq, Int.reduceNe, Int.reduceLT, Int.reduceLE] at h2); refine kp [5, 1] ?_; refine sr ?_; refine o1 (ieq ?_); refine o1 (asg ?_); refine nx ?_; refine cd (fun h4 => ?_) (fun h4 => ?_)
    · simp only [nrm, Int.reduceEq, Int.reduceNe, Int.reduceLT, Int.reduceLE] at h4
    (try simp only [nrm, Int.reduceEq, Int.reduceNe, Int.reduceLT, Int.reduceLE] at h4); refine sr ?_; refine o1 (ieq ?_); refine o1 (asg ?_); refine nx ?_; refine cd (fun h6 => ?_) (fun h6 => ?_)
    · simp only [nrm, Int.reduceEq, Int.reduceNe, Int.reduceLT, Int.reduceLE] at h6
    (try simp only [nrm, Int.reduceEq, Int.reduceNe, Int.reduceLT, Int.reduceLE] at h6); refine runs_skip ?_; refine inb_normal ?_; refine seq_normal ?_; refine kp [1] ?_; refine sr ?_; refine o1 (asg ?_); refine nx ?_; refine runs_seq ?_
    refine sr ?_; refine o1 (fdb ti45 ?_); refine o1 (ldb ti3 ?_); refine o1 (ieq ?_); refine nx ?_; refine cd (fun h9 => ?_) (fun h9 => ?_)
    · simp only [nrm, Int.reduceEq, Int.reduceNe, Int.reduceLT, Int.reduceLE] at h9
    (try simp only [nrm, Int.reduceEq, Int.reduceNe, Int.reduceLT, Int.reduceLE] at h9); refine runs_skip ?_; refine seq_normal ?_; refine runs_seq ?_; refine a_start ?_ (hm := by exact mixed); refine A1 0 rfl (mv ⟨_, rfl, ?_⟩)
    refine A1 1 rfl (f_sadd ⟨_, rfl, ?_⟩ (hb := by (try simp only [ByteArray.size_append, size_mk, List.size_toArray, List.length_cons, List.length_nil]); omega))
    refine A1 2 rfl (f_sadd ⟨_, rfl, ?_⟩ (hb := by (try simp only [ByteArray.size_append, size_mk, List.size_toArray, List.length_cons, List.length_nil]); omega)); refine A1 3 rfl (fdb ti45 ⟨_, rfl, ?_⟩); refine A1 4 rfl (ldb ti28 ⟨_, rfl, ?_⟩)
    refine A1 5 rfl (ixs us28 te28 ⟨_, rfl, ?_⟩ (he := by exact (rfl))); refine A1 6 rfl (lda ti45 ⟨_, rfl, ?_⟩ (hlen := by exact (Lvl.cells_len _))); refine A1 10 rfl (fdb ti45 ⟨_, rfl, ?_⟩); refine A1 11 rfl (ldb ti28 ⟨_, rfl, ?_⟩)
    refine A1 12 rfl (ixs us28 te28 ⟨_, rfl, ?_⟩ (he := by exact (rfl))); refine A1 13 rfl (lda ti45 ⟨_, rfl, ?_⟩ (hlen := by exact (Lvl.cells_len _))); refine A2 7 rfl (cv ca69 rfl rfl (iha (by omega)) (fir .nil) ?_)
    refine A1 8 rfl (f_sadd ⟨_, rfl, ?_⟩ (hb := by (try simp only [ByteArray.size_append, size_mk, List.size_toArray, List.length_cons, List.length_nil]); omega))
    refine A1 9 rfl (f_sadd ⟨_, rfl, ?_⟩ (hb := by (try simp only [ByteArray.size_append, size_mk, List.size_toArray, List.length_cons, List.length_nil]); omega)); refine A2 14 rfl (cv ca69 rfl rfl (ihb (by omega)) (fir .nil) ?_)
    refine A1 15 rfl (f_sadd ⟨_, rfl, ?_⟩ (hb := by (try simp only [ByteArray.size_append, size_mk, List.size_toArray, List.length_cons, List.length_nil]); omega))
    refine A1 16 rfl (f_sadd ⟨_, rfl, ?_⟩ (hb := by (try simp only [ByteArray.size_append, size_mk, List.size_toArray, List.length_cons, List.length_nil]); omega)); refine A1 17 rfl (asg ⟨_, rfl, ?_⟩); refine a_end ?_; refine seq_normal ?_
    refine runs_ret ?_; refine fin_ret ?_; refine fin_d1 rfl rfl ?_
    rfl
  | imax a b iha ihb =>
    intro hsz
    simp only [Lev.weight] at hsz
    have h9 := a.print_size
    have h10 := b.print_size
    refine triD_of_runs Tryz.func69 rfl Tryz.ntmps69 (rs := [.tmp 2]) rfl rfl rfl ?_
    refine sr ?_; refine oc (T := fun _ => False) (bx ti45 ?_ (hl := by simp only [List.length_cons, List.length_nil, Nat.reduceAdd]; rfl)); refine o1 (asg ?_); refine nx ?_; refine runs_seq ?_; refine sr ?_; refine o1 (fdb ti45 ?_)
    refine o1 (ldb ti3 ?_); refine nx ?_; refine runs_block ?_; refine sr ?_; refine o1 (ieq ?_); refine o1 (asg ?_); refine nx ?_; refine cd (fun h2 => ?_) (fun h2 => ?_)
    · simp only [nrm, Int.reduceEq, Int.reduceNe, Int.reduceLT, Int.reduceLE] at h2
    (try simp only [nrm, Int.reduceEq, Int.reduceNe, Int.reduceLT, Int.reduceLE] at h2); refine kp [5, 1] ?_; refine sr ?_; refine o1 (ieq ?_); refine o1 (asg ?_); refine nx ?_; refine cd (fun h4 => ?_) (fun h4 => ?_)
    · simp only [nrm, Int.reduceEq, Int.reduceNe, Int.reduceLT, Int.reduceLE] at h4
    (try simp only [nrm, Int.reduceEq, Int.reduceNe, Int.reduceLT, Int.reduceLE] at h4); refine sr ?_; refine o1 (ieq ?_); refine o1 (asg ?_); refine nx ?_; refine cd (fun h6 => ?_) (fun h6 => ?_)
    · simp only [nrm, Int.reduceEq, Int.reduceNe, Int.reduceLT, Int.reduceLE] at h6
    (try simp only [nrm, Int.reduceEq, Int.reduceNe, Int.reduceLT, Int.reduceLE] at h6); refine runs_skip ?_; refine inb_normal ?_; refine seq_normal ?_; refine kp [1] ?_; refine sr ?_; refine o1 (asg ?_); refine nx ?_; refine runs_seq ?_
    refine sr ?_; refine o1 (fdb ti45 ?_); refine o1 (ldb ti3 ?_); refine o1 (ieq ?_); refine nx ?_; refine cdf (fun h9 => ?_) (fun h9 => ?_)
    · simp only [nrm, Int.reduceEq, Int.reduceNe, Int.reduceLT, Int.reduceLE] at h9
    (try simp only [nrm, Int.reduceEq, Int.reduceNe, Int.reduceLT, Int.reduceLE] at h9); refine kp [1] ?_; refine runs_region ?_; refine o1 (asg ?_); refine nx ?_; refine runs_seq ?_; refine a_start ?_ (hm := by exact mixed)
    refine A1 0 rfl (mv ⟨_, rfl, ?_⟩); refine A1 1 rfl (f_sadd ⟨_, rfl, ?_⟩ (hb := by (try simp only [ByteArray.size_append, size_mk, List.size_toArray, List.length_cons, List.length_nil]); omega))
    refine A1 2 rfl (f_sadd ⟨_, rfl, ?_⟩ (hb := by (try simp only [ByteArray.size_append, size_mk, List.size_toArray, List.length_cons, List.length_nil]); omega)); refine A1 3 rfl (fdb ti45 ⟨_, rfl, ?_⟩); refine A1 4 rfl (ldb ti28 ⟨_, rfl, ?_⟩)
    refine A1 5 rfl (ixs us28 te28 ⟨_, rfl, ?_⟩ (he := by exact (rfl))); refine A1 6 rfl (lda ti45 ⟨_, rfl, ?_⟩ (hlen := by exact (Lvl.cells_len _))); refine A1 10 rfl (fdb ti45 ⟨_, rfl, ?_⟩); refine A1 11 rfl (ldb ti28 ⟨_, rfl, ?_⟩)
    refine A1 12 rfl (ixs us28 te28 ⟨_, rfl, ?_⟩ (he := by exact (rfl))); refine A1 13 rfl (lda ti45 ⟨_, rfl, ?_⟩ (hlen := by exact (Lvl.cells_len _))); refine A2 7 rfl (cv ca69 rfl rfl (iha (by omega)) (fir .nil) ?_)
    refine A1 8 rfl (f_sadd ⟨_, rfl, ?_⟩ (hb := by (try simp only [ByteArray.size_append, size_mk, List.size_toArray, List.length_cons, List.length_nil]); omega))
    refine A1 9 rfl (f_sadd ⟨_, rfl, ?_⟩ (hb := by (try simp only [ByteArray.size_append, size_mk, List.size_toArray, List.length_cons, List.length_nil]); omega)); refine A2 14 rfl (cv ca69 rfl rfl (ihb (by omega)) (fir .nil) ?_)
    refine A1 15 rfl (f_sadd ⟨_, rfl, ?_⟩ (hb := by (try simp only [ByteArray.size_append, size_mk, List.size_toArray, List.length_cons, List.length_nil]); omega))
    refine A1 16 rfl (f_sadd ⟨_, rfl, ?_⟩ (hb := by (try simp only [ByteArray.size_append, size_mk, List.size_toArray, List.length_cons, List.length_nil]); omega)); refine A1 17 rfl (asg ⟨_, rfl, ?_⟩); refine a_end ?_; refine seq_normal ?_
    refine runs_ret ?_; refine fin_ret ?_; refine fin_d1 rfl rfl ?_
    rfl
  | param s =>
    intro hsz
    refine triD_of_runs Tryz.func69 rfl Tryz.ntmps69 (rs := [.tmp 2]) rfl rfl rfl ?_
    refine sr ?_; refine oc (T := fun _ => False) (bx ti45 ?_ (hl := by simp only [List.length_cons, List.length_nil, Nat.reduceAdd]; rfl)); refine o1 (asg ?_); refine nx ?_; refine runs_seq ?_; refine sr ?_; refine o1 (fdb ti45 ?_)
    refine o1 (ldb ti3 ?_); refine nx ?_; refine runs_block ?_; refine sr ?_; refine o1 (ieq ?_); refine o1 (asg ?_); refine nx ?_; refine cd (fun h2 => ?_) (fun h2 => ?_)
    · simp only [nrm, Int.reduceEq, Int.reduceNe, Int.reduceLT, Int.reduceLE] at h2
    (try simp only [nrm, Int.reduceEq, Int.reduceNe, Int.reduceLT, Int.reduceLE] at h2); refine kp [5, 1] ?_; refine sr ?_; refine o1 (ieq ?_); refine o1 (asg ?_); refine nx ?_; refine cd (fun h4 => ?_) (fun h4 => ?_)
    · simp only [nrm, Int.reduceEq, Int.reduceNe, Int.reduceLT, Int.reduceLE] at h4
    (try simp only [nrm, Int.reduceEq, Int.reduceNe, Int.reduceLT, Int.reduceLE] at h4); refine sr ?_; refine o1 (ieq ?_); refine o1 (asg ?_); refine nx ?_; refine cdf (fun h6 => ?_) (fun h6 => ?_)
    · simp only [nrm, Int.reduceEq, Int.reduceNe, Int.reduceLT, Int.reduceLE] at h6
    (try simp only [nrm, Int.reduceEq, Int.reduceNe, Int.reduceLT, Int.reduceLE] at h6); refine kp [1] ?_; refine sr ?_; refine o1 (fdb ti45 ?_); refine o1 (ldb ti9 ?_); refine o1 (asg ?_); refine nx ?_; refine runs_ret ?_; refine inb_ret ?_
    refine seq_ret ?_; refine fin_ret ?_; refine fin_d1 rfl rfl ?_
    rfl
end Go.Proofs.YtneaancanfpdhaaGreatDoor
namespace Go.Proofs.YtneaancanfpdhaaGreatDoor
open Go Go.Vd Go.RowKit
attribute [local irreducible] Runs OpsR OpR FloatR AnyR AnyO
variable {g gl : Nat → List D}
theorem wordT_at {k : Int} (h0 : 0 ≤ k) (h6 : k ≤ 6) : (strs wordsT)[k.toNat]? = some [.v (.string (wordT k))] := by
  have : k = 0 ∨ k = 1 ∨ k = 2 ∨ k = 3 ∨ k = 4 ∨ k = 5 ∨ k = 6 := by omega
  rcases this with rfl | rfl | rfl | rfl | rfl | rfl | rfl <;> rfl
theorem printTerm_spec : ∀ (n : Nat) (k m : Int) (s : ByteArray) (ls : List Lvl) (args : List Trm), wtT (.mk k m s ls args) ≤ n → wtT (.mk k m s ls args) ≤ 1099511627776 → okT (.mk k m s ls args) →
    TriD Tryz.prog (glT g) 32 [(Trm.mk k m s ls args).d] (· = .v (.string (wrT (.mk k m s ls args)))) := by
  intro n
  induction n with
  | zero => intro k m s ls args h; simp [wtT] at h
  | succ n ih =>
    intro k m s ls args hn hb ho
    have hwt := wrT_size _ ho
    obtain ⟨h0, h6, hm0, hm, hl, ha⟩ := ho
    have hll := wtLs_len ls
    have hlt := wtTs_len args
    simp only [wtT] at hn hb
    simp only [wtT] at hwt
    have hle1 := lvls_len ls
    have hle2 := trms_len args
    by_cases hk : k = 0
    · subst hk
      obtain ⟨m, rfl⟩ := Int.eq_ofNat_of_zero_le hm0
      have hd5 := digR_size6 (n := m) (by omega)
      refine triD_of_runs Tryz.func32 rfl Tryz.ntmps32 (rs := [.tmp 2]) rfl rfl rfl ?_
      refine sr ?_; refine oc (T := fun _ => False) (bx ti31 ?_ (hl := by simp only [List.length_cons, List.length_nil, Nat.reduceAdd]; rfl)); refine o1 (asg ?_); refine nx ?_; refine runs_seq ?_; refine sr ?_; refine o1 (fdb ti31 ?_)
      refine o1 (ldb ti3 ?_); refine o1 (ieq ?_); refine nx ?_; refine cdf (fun h1 => ?_) (fun h1 => ?_)
      · simp only [nrm, Int.reduceEq, Int.reduceNe, Int.reduceLT, Int.reduceLE] at h1
      (try simp only [nrm, Int.reduceEq, Int.reduceNe, Int.reduceLT, Int.reduceLE] at h1); refine kp [1] ?_; refine sr ?_; refine o1 (fdb ti31 ?_); refine o1 (ldb ti3 ?_); refine oc (cv ca68 rfl rfl (digits_spec m (by omega)) (fir .nil) ?_)
      refine o1 (f_sadd ?_ (hb := by (try simp only [ByteArray.size_append, size_mk, List.size_toArray, List.length_cons, List.length_nil]); omega)); refine o1 (asg ?_); refine nx ?_; refine runs_ret ?_; refine seq_ret ?_; refine fin_ret ?_
      refine fin_d1 rfl rfl ?_
      rw [wrT_var]; rfl
    · rw [wrT_hd hk] at hwt ⊢
      simp only [ByteArray.size_append, size_mk, List.size_toArray, List.length_cons, List.length_nil] at hwt
      have hw5 := wordT_size k
      have hhd : (hdT k s).size ≤ 7 + s.size := by unfold hdT; split <;> simp only [ByteArray.size_append, size_mk, List.size_toArray, List.length_cons, List.length_nil] <;> omega
      refine triD_of_runs Tryz.func32 rfl Tryz.ntmps32 (rs := [.tmp 2]) rfl rfl rfl ?_
      refine sr ?_; refine oc (T := fun _ => False) (bx ti31 ?_ (hl := by simp only [List.length_cons, List.length_nil, Nat.reduceAdd]; rfl)); refine o1 (asg ?_); refine nx ?_; refine runs_seq ?_; refine sr ?_; refine o1 (fdb ti31 ?_)
      refine o1 (ldb ti3 ?_); refine o1 (ieq ?_); refine nx ?_; refine cd (fun h1 => ?_) (fun h1 => ?_)
      · (try simp only [nrm, Int.reduceEq, Int.reduceNe, Int.reduceLT, Int.reduceLE] at h1); contradiction
      (try simp only [nrm, Int.reduceEq, Int.reduceNe, Int.reduceLT, Int.reduceLE] at h1); refine runs_skip ?_; refine seq_normal ?_; refine kp [1] ?_; refine sr ?_; refine o1 (ldc ti42 ?_); refine o1 (fdb ti31 ?_); refine o1 (ldb ti3 ?_)
      refine o1 (ixs us42 te42 ?_ (he := by exact (wordT_at h0 h6))); refine o1 (ldc ti9 ?_); refine o1 (f_sadd ?_ (hb := by (try simp only [ByteArray.size_append, size_mk, List.size_toArray, List.length_cons, List.length_nil]); omega))
      refine o1 (asg ?_); refine nx ?_; refine runs_seq ?_; refine kp [3, 1] ?_; refine sr ?_; refine o1 (fdb ti31 ?_); refine o1 (ldb ti3 ?_); refine o1 (ieq ?_); refine nx ?_; refine kp [21, 3, 1] ?_
      apply runs_cut_c (ι := Unit) (fun _ => [(3, .d (.v (.string (hdT k s))))]) [1] (fun _ => True)
      case hk => exact rfl
      case h1 =>
        refine cdf (fun h4 => ?_) (fun h4 => ?_)
        · (try simp only [nrm, Int.reduceEq, Int.reduceNe, Int.reduceLT, Int.reduceLE] at h4)
          refine runs_skip ?_; refine seq_back ?_; refine back_i (()) rfl ?_ ?_
          · trivial
          · refine mo ?_ (slx rfl (by exact Fit.of_eq (by simp only [hdT, h4, if_true, if_false]; rfl)) (sly slz))
            repeat (first | exact boz | refine boc ?_)
        (try simp only [nrm, Int.reduceEq, Int.reduceNe, Int.reduceLT, Int.reduceLE] at h4); refine runs_region ?_; refine o1 (mv ?_)
        refine o1 (f_sadd ?_ (hb := by (try simp only [ByteArray.size_append, size_mk, List.size_toArray, List.length_cons, List.length_nil]); omega)); refine o1 (fdb ti31 ?_); refine o1 (ldb ti9 ?_)
        refine o1 (f_sadd ?_ (hb := by (try simp only [ByteArray.size_append, size_mk, List.size_toArray, List.length_cons, List.length_nil]); omega)); refine o1 (asg ?_); refine ops_nil ?_; refine seq_back ?_; refine back_i (()) rfl ?_ ?_
        · trivial
        · refine mo ?_ (slx rfl (by exact Fit.of_eq (by simp only [hdT, h4, if_true, if_false]; rfl)) (sly slz))
          repeat (first | exact boz | refine boc ?_)
      case h2 =>
        rintro _ hcut
        try dsimp only at hcut
        refine kp [3, 1] ?_; refine runs_seq ?_; refine sr ?_; refine o1 (asg ?_); refine nx ?_; refine runs_block ?_
        apply runs_loop_c (ι := Nat) (fun i => [(4, int i), (3, .d (.v (.string (hdT k s ++ wrL (ls.take i)))))]) [1] (fun i => i ≤ ls.length) (fun i => ls.length - i) (0)
        case hk => exact rfl
        case hI =>
          exact Nat.zero_le _
        case hm =>
          refine mo ?_ (sly (slx rfl (by exact Fit.of_eq (by simp only [List.take_zero, wrL, ByteArray.append_empty]; rfl)) (sly slz)))
          repeat (first | exact boz | refine boc ?_)
        case h =>
          rintro i hinv
          try dsimp only at hinv
          refine kp [4, 3, 1] ?_; refine runs_seq ?_; refine sr ?_; refine o1 (mv ?_); refine o1 (fdb ti31 ?_); refine o1 (ldb ti28 ?_); refine o1 (le1 us28 ?_); refine o1 (ilt ?_); refine nx ?_; refine cd (fun h7 => ?_) (fun h7 => ?_)
          · (try simp only [nrm, Int.reduceEq, Int.reduceNe, Int.reduceLT, Int.reduceLE] at h7)
            refine runs_skip ?_; refine seq_normal ?_; refine runs_seq ?_; refine runs_block ?_; refine kp [4, 3, 1] ?_
            have hget : ls[i]? = some ls[i] := by simp
            obtain ⟨x, hx, _⟩ := okLs_get hl hget
            rw [hx] at hget
            have hwx := wtL_get hget
            rw [wtL_lev] at hwx
            have hpx := x.print_size
            obtain ⟨k1, s1, a1, hX⟩ := Lvl.case x.toLvl
            have hget' := hget
            rw [hX] at hget'
            have hst := wrL_take_le ls (i + 1)
            rw [wrL_take hget, wr_lev] at hst
            simp only [ByteArray.size_append, size_mk, List.size_toArray, List.length_cons, List.length_nil] at hst
            have hpr := printLevel_spec (gl := glT g) x (by omega)
            rw [hX] at hpr
            refine runs_region ?_; refine o1 (mv ?_); refine o1 (f_sadd ?_ (hb := by (try simp only [ByteArray.size_append, size_mk, List.size_toArray, List.length_cons, List.length_nil]); omega)); refine o1 (fdb ti31 ?_); refine o1 (ldb ti28 ?_)
            refine o1 (mv ?_); refine o1 (ixs us28 te28 ?_ (he := by exact (lvl_at hget'))); refine o1 (ldc ti45 ?_); refine oc (cv ca69 rfl rfl (hpr) (fid .nil) ?_)
            refine o1 (f_sadd ?_ (hb := by (try simp only [ByteArray.size_append, size_mk, List.size_toArray, List.length_cons, List.length_nil]); omega)); refine o1 (asg ?_); refine ops_nil ?_; refine inb_normal ?_; refine seq_normal ?_
            refine kp [3, 4, 1] ?_; refine runs_region ?_; refine o1 (mv ?_); refine o1 (iad ?_); refine o1 (asg ?_); refine ops_nil ?_; refine seq_back ?_; refine back_i (i + 1) rfl ?_ ?_
            · exact ⟨by omega, by omega⟩
            · refine mo ?_ (sly (slx rfl (by exact Fit.of_eq (by rw [wrL_take hget, wr_lev]; simp only [ByteArray.append_assoc]; rfl)) (sly slz)))
              repeat (first | exact boz | refine boc ?_)
          (try simp only [nrm, Int.reduceEq, Int.reduceNe, Int.reduceLT, Int.reduceLE] at h7); refine runs_exit ?_; refine seq_exit ?_; refine seq_exit ?_; refine inb_exit ?_; refine seq_normal ?_; refine runs_seq ?_; refine kp [3, 1] ?_; refine sr ?_
          refine o1 (asg ?_); refine nx ?_; refine runs_block ?_; obtain rfl : i = ls.length := by omega
          apply runs_loop_c (ι := Nat) (fun j => [(5, int j), (3, .d (.v (.string (hdT k s ++ wrL ls ++ wrTs (args.take j)))))]) [1] (fun j => j ≤ args.length) (fun j => args.length - j) (0)
          case hk => exact rfl
          case hI =>
            exact Nat.zero_le _
          case hm =>
            refine mo ?_ (sly (slx rfl (by exact Fit.of_eq (by rw [List.take_length]; simp only [List.take_zero, wrTs, ByteArray.append_empty]; rfl)) (sly slz)))
            repeat (first | exact boz | refine boc ?_)
          case h =>
            rintro j hinv
            try dsimp only at hinv
            refine kp [5, 3, 1] ?_; refine runs_seq ?_; refine sr ?_; refine o1 (mv ?_); refine o1 (fdb ti31 ?_); refine o1 (ldb ti29 ?_); refine o1 (le1 us29 ?_); refine o1 (ilt ?_); refine nx ?_; refine cdf (fun h11 => ?_) (fun h11 => ?_)
            · (try simp only [nrm, Int.reduceEq, Int.reduceNe, Int.reduceLT, Int.reduceLE] at h11)
              refine runs_exit ?_; refine seq_exit ?_; refine seq_exit ?_; refine inb_exit ?_; refine seq_normal ?_; refine runs_seq ?_; refine kp [3] ?_; obtain rfl : j = args.length := (by omega)
              have htl := wrTs_take_le args args.length
              refine runs_region ?_; refine o1 (mv ?_); refine o1 (f_sadd ?_ (hb := by (try simp only [ByteArray.size_append, size_mk, List.size_toArray, List.length_cons, List.length_nil]); omega)); refine o1 (asg ?_); refine nx ?_; refine runs_ret ?_
              refine fin_ret ?_; refine fin_d1 rfl rfl ?_
              rw [List.take_length]
            (try simp only [nrm, Int.reduceEq, Int.reduceNe, Int.reduceLT, Int.reduceLE] at h11); refine runs_skip ?_; refine seq_normal ?_; refine runs_seq ?_; refine runs_block ?_; refine kp [5, 3, 1] ?_
            obtain ⟨k2, n2, s2, l2, a2, hget⟩ := trm_get (show j < args.length by omega)
            have hwx := wtT_get hget
            have hox := okT_get ha hget
            have hpx := wrT_size _ hox
            have hst := wrTs_take_le args (j + 1)
            rw [wrTs_take hget] at hst
            simp only [ByteArray.size_append, size_mk, List.size_toArray, List.length_cons, List.length_nil] at hst
            refine runs_region ?_; refine o1 (mv ?_); refine o1 (f_sadd ?_ (hb := by (try simp only [ByteArray.size_append, size_mk, List.size_toArray, List.length_cons, List.length_nil]); omega)); refine o1 (fdb ti31 ?_); refine o1 (ldb ti29 ?_)
            refine o1 (mv ?_); refine o1 (ixs us29 te29 ?_ (he := by exact (trm_at hget))); refine o1 (ldc ti31 ?_); refine oc (cv ca32 rfl rfl (ih k2 n2 s2 l2 a2 (by omega) (by omega) hox) (fid .nil) ?_)
            refine o1 (f_sadd ?_ (hb := by (try simp only [ByteArray.size_append, size_mk, List.size_toArray, List.length_cons, List.length_nil]); omega)); refine o1 (asg ?_); refine ops_nil ?_; refine inb_normal ?_; refine seq_normal ?_
            refine kp [3, 5, 1] ?_; refine runs_region ?_; refine o1 (mv ?_); refine o1 (iad ?_); refine o1 (asg ?_); refine ops_nil ?_; refine seq_back ?_; refine back_i (j + 1) rfl ?_ ?_
            · exact ⟨by omega, by omega⟩
            · refine mo ?_ (sly (slx rfl (by exact Fit.of_eq (by rw [wrTs_take hget]; simp only [ByteArray.append_assoc]; rfl)) (sly slz)))
              repeat (first | exact boz | refine boc ?_)
end Go.Proofs.YtneaancanfpdhaaGreatDoor
namespace Go.Proofs.YtneaancanfpdhaaGreatDoor
open Go.Shelf
def laysM246_ren : Go.Shelf.Ren := ⟨fun | 246 => 132 | 283 => 146 | 284 => 147 | 285 => 148 | 286 => 149 | 129 => 156 | 317 => 155 | 318 => 157 | 319 => 158 | 320 => 159 | 337 => 163 | 338 => 164 | n => n, fun | 2 => 2 | 3 => 3 | 9 => 9 | 4 => 4 | 171 => 178 | 0 => 0 | 53 => 179 | 37 => 89 | 5 => 5 | 173 => 182 | 212 => 197 | 51 => 198 | 20 => 20 | 213 => 199 | 46 => 191 | 232 => 210 | 233 => 211 | n => n, fun | 17 => 7 | 18 => 8 | 19 => 9 | n => n⟩
theorem laysM246 : Go.Proofs.LaysM.n246 Tryz.prog laysM246_ren := {
  mixed := by kernel_rfl
  f129 := Tryz.func156.trans (congrArg some (by kernel_rfl))
  f246 := Tryz.func132.trans (congrArg some (by kernel_rfl))
  f283 := Tryz.func146.trans (congrArg some (by kernel_rfl))
  f284 := Tryz.func147.trans (congrArg some (by kernel_rfl))
  f285 := Tryz.func148.trans (congrArg some (by kernel_rfl))
  f286 := Tryz.func149.trans (congrArg some (by kernel_rfl))
  f317 := Tryz.func155.trans (congrArg some (by kernel_rfl))
  f318 := Tryz.func157.trans (congrArg some (by kernel_rfl))
  f319 := Tryz.func158.trans (congrArg some (by kernel_rfl))
  f320 := Tryz.func159.trans (congrArg some (by kernel_rfl))
  f337 := Tryz.func163.trans (congrArg some (by kernel_rfl))
  f338 := Tryz.func164.trans (congrArg some (by kernel_rfl))
  t0 := Tryz.underlying0
  a0 := Tryz.isAgg0
  z0 := Tryz.sizeOf0
  v0 := Tryz.zeroValue0
  t2 := Tryz.underlying2
  a2 := Tryz.isAgg2
  z2 := Tryz.sizeOf2
  v2 := Tryz.zeroValue2
  t3 := Tryz.underlying3
  a3 := Tryz.isAgg3
  z3 := Tryz.sizeOf3
  v3 := Tryz.zeroValue3
  t4 := Tryz.underlying4
  a4 := Tryz.isAgg4
  z4 := Tryz.sizeOf4
  v4 := Tryz.zeroValue4
  t5 := Tryz.underlying5
  a5 := Tryz.isAgg5
  z5 := Tryz.sizeOf5
  v5 := Tryz.zeroValue5
  t9 := Tryz.underlying9
  a9 := Tryz.isAgg9
  z9 := Tryz.sizeOf9
  v9 := Tryz.zeroValue9
  t20 := Tryz.underlying20
  a20 := Tryz.isAgg20
  z20 := Tryz.sizeOf20
  v20 := Tryz.zeroValue20
  t37 := Tryz.underlying89
  a37 := Tryz.isAgg89
  z37 := Tryz.sizeOf89
  v37 := Tryz.zeroValue89
  t46 := Tryz.underlying191
  a46 := Tryz.isAgg191
  z46 := Tryz.sizeOf191
  v46 := Tryz.zeroValue191
  t51 := Tryz.underlying198
  a51 := Tryz.isAgg198
  z51 := Tryz.sizeOf198
  v51 := Tryz.zeroValue198
  t53 := Tryz.underlying179
  a53 := Tryz.isAgg179
  z53 := Tryz.sizeOf179
  v53 := Tryz.zeroValue179
  t171 := Tryz.underlying178
  a171 := Tryz.isAgg178
  z171 := Tryz.sizeOf178
  v171 := Tryz.zeroValue178
  t173 := Tryz.underlying182
  a173 := Tryz.isAgg182
  z173 := Tryz.sizeOf182
  v173 := Tryz.zeroValue182
  t212 := Tryz.underlying197
  a212 := Tryz.isAgg197
  z212 := Tryz.sizeOf197
  v212 := Tryz.zeroValue197
  t213 := Tryz.underlying199
  a213 := Tryz.isAgg199
  z213 := Tryz.sizeOf199
  t232 := Tryz.underlying210
  a232 := Tryz.isAgg210
  z232 := Tryz.sizeOf210
  v232 := Tryz.zeroValue210
  t233 := Tryz.underlying211
  a233 := Tryz.isAgg211
  z233 := Tryz.sizeOf211
  v233 := Tryz.zeroValue211
  g17 := by kernel_rfl
  g18 := by kernel_rfl
  g19 := by kernel_rfl
  i0 := by kernel_rfl
  i2 := by kernel_rfl
  i3 := by kernel_rfl
  i4 := by kernel_rfl
  i5 := by kernel_rfl
  i9 := by kernel_rfl
  i20 := by kernel_rfl
  i37 := by kernel_rfl
  i46 := by kernel_rfl
  i51 := by kernel_rfl
  i53 := by kernel_rfl
  i171 := by kernel_rfl
  i173 := by kernel_rfl
  i212 := by kernel_rfl
  i232 := by kernel_rfl
  i233 := by kernel_rfl
  m17 := by kernel_rfl
  m18 := by kernel_rfl
  m19 := by kernel_rfl }
end Go.Proofs.YtneaancanfpdhaaGreatDoor
namespace Go.Proofs.YtneaancanfpdhaaGreatDoor
open Go Go.Vd Go.RowKit Go.Shelf Go.Sort Go.Lib
variable {g gl : Nat → List D}
/-- a library contract that returns a text, over worlds, is one of data -/
theorem triD_of_calls {P : Program} {GL : Nat → List D} {f : FuncId} {args : List D} {s : ByteArray}
    (h : ∀ (m : Mem) (w : World) (vs : List Value), (∀ b o x, m b o = some x → w.cell? ⟨b, o, none⟩ = some x) → (∀ b, DenC m b 0 (GL b)) → SDenL ⟨m, []⟩ (args.map .d) vs → Calls P f ⟨vs⟩ w fun e w' => e = .returned (.string s) ∧ Below w.heap.size w w') :
    TriD P GL f args (· = .v (.string s)) := fun g w vs hs hd => by
  have hgs : g.gs = [] := List.length_eq_zero_iff.1 (hs.len ▸ rfl)
  obtain ⟨m, gs⟩ := g
  simp only at hgs
  subst hgs
  refine (h m w vs (fun b o x e => (hs.sat b o x e).1) hs.glob hd).mono fun e w' he => ?_
  obtain ⟨rfl, hb⟩ := he
  have hkeep : ∀ b o x, m b o = some x → w'.cell? ⟨b, o, none⟩ = some x := fun b o x e => by
    have h1 := (hs.sat b o x e).1
    have hlt : b < w.heap.size := by
      unfold World.cell? at h1
      rcases hh : w.heap[b]? with _ | ob
      · rw [hh] at h1; cases h1
      · exact (Array.getElem?_eq_some_iff.1 hh).1
    unfold World.cell? at h1 ⊢
    rw [hb.block b hlt]; exact h1
  refine ⟨⟨m, []⟩, [], ⟨rfl, by simp, by simp, by simp, fun b o x e => ⟨hkeep b o x e, (hs.sat b o x e).2⟩, hs.glob⟩,
    ⟨⟨hb.os, hb.tape, hb.output, hb.size, fun c hc _ => hb.block c hc⟩, Mle.refl _, fun b o x e1 e2 => ?_, by simp, fun i b hi => ?_⟩, by simp, rfl, .d (.v (.string s)), rfl, rfl, _, rfl, rfl⟩
  · simp only at e1 e2; rw [e1] at e2; cases e2
  · simp at hi
theorem digR_lib (n : Nat) : digR n = ⟨(decDigits n).toArray⟩ := by
  induction n using Nat.strongRecOn with
  | _ n ih =>
    rw [decDigits]
    by_cases h : n < 10
    · rw [digR_one h, dif_pos h, Nat.mod_eq_of_lt h]
    · rw [digR_more h, dif_neg h, ih (n / 10) (by omega)]
      apply ByteArray.ext
      simp
def p10D : List D := pow10Tab.map fun z => .v (.int .u64 z)
theorem p10_cell {m : Mem} {w : World} {b : Nat} (hm : ∀ b o x, m b o = some x → w.cell? ⟨b, o, none⟩ = some x) (h : DenC m b 0 p10D) {i : Nat} (hi : i < 20) : w.cell? ⟨b, i, none⟩ = some (.int .u64 ((10 ^ i : Nat) : Int)) := by
  have hl : pow10Tab[i]? = some ((10 ^ i : Nat) : Int) := by
    have := pow10Tab_at i hi
    rw [List.getD_eq_getElem?_getD] at this
    rw [List.getElem?_eq_getElem (by rw [pow10Tab_length]; exact hi)] at this ⊢
    simpa using this
  obtain ⟨x, h1, h2⟩ := DenC.get h (i := i) (d := .v (.int .u64 ((10 ^ i : Nat) : Int))) (by simp [p10D, hl])
  rw [Nat.zero_add] at h1
  rw [hm _ _ _ h1]
  exact congrArg some h2
section
variable {P : Program} {ρ : Ren}
set_option maxHeartbeats 2000000 in
set_option maxRecDepth 100000 in
theorem nd_calls (L : LaysM.n284 P ρ) (u : Nat) (h1 : 1 ≤ u) (h2 : u < 18446744073709551616) (w : World) (hc : w.cell? ⟨ρ.g 17, l10 (Lib.bitLen u), none⟩ = some (.int .u64 ((10 ^ l10 (Lib.bitLen u) : Nat) : Int))) :
    Calls P (ρ.f 284) #[.int .u64 u] w fun e w' => e = .returned (.int .i64 (nDigits u)) ∧ w' = w := by
  have mixed := L.mixed
  have t53 := L.t53; have a53 := L.a53; have z53 := L.z53; have v53 := L.v53
  have t3 := L.t3; have a3 := L.a3; have z3 := L.z3; have v3 := L.v3
  have t212 := L.t212; have a212 := L.a212; have z212 := L.z212; have v212 := L.v212
  have t0 := L.t0; have a0 := L.a0; have z0 := L.z0; have v0 := L.v0
  have t4 := L.t4; have a4 := L.a4; have z4 := L.z4; have v4 := L.v4
  have e129 : ∀ args w, (callFunc (ρ.f 129) args).run P w = .ok (.enter (ρ.f 129) args) w := enters_of L.f129 (by kernel_rfl) rfl
  have e317 : ∀ args w, (callFunc (ρ.f 317) args).run P w = .ok (.enter (ρ.f 317) args) w := enters_of L.f317 (by kernel_rfl) rfl
  have e318 : ∀ args w, (callFunc (ρ.f 318) args).run P w = .ok (.enter (ρ.f 318) args) w := enters_of L.f318 (by kernel_rfl) rfl
  obtain ⟨hnd, h19⟩ := numDigits_eq u h1 h2
  have hL : Lib.bitLen u ≤ 64 := Lib.bitLen_le u 64 (Nat.le_refl _) h2
  have hto : ((u : Int)).toNat = u := by omega
  generalize hq : l10 (Lib.bitLen u) = q at hnd h19 hc
  generalize hT : 10 ^ q = T at hnd hc
  have h20 : q < 20 := by omega
  have Hnd := Lib.hid hnd
  clear hnd
  go_enter L.f284, Body.n284_ntmps ρ
  go_wp2_with (first
    | (go_at_fn (ρ.f 129); refine (Any.bits_Len64 { L with } _ _ (by omega) (by omega)).mono ?_; rintro e w' ⟨rfl, rfl⟩)
    | (go_at_fn (ρ.f 317); refine (Any.internal_strconv_log10Pow2 { L with } _ (by first | exact hL | (rw [hto]; exact hL)) _).mono ?_; rintro e w' ⟨rfl, rfl⟩)
    | (go_at_fn (ρ.f 318); refine (Any.internal_strconv_bool2_int { L with } _ _).mono ?_; rintro e w' ⟨rfl, rfl⟩))
  all_goals go_ret
  all_goals (
    refine ⟨?_, rfl⟩
    have hnd := Hnd.out
    congr 2
    split at hnd <;> simp_all <;> omega)
set_option maxHeartbeats 6400000 in
set_option maxRecDepth 100000 in
theorem fmt_calls (L : LaysM.n246 P ρ) (u : Nat) (hu : u ≤ 999999) (w : World) (hc : ∀ i, i < 20 → w.cell? ⟨ρ.g 17, i, none⟩ = some (.int .u64 ((10 ^ i : Nat) : Int))) :
    Calls P (ρ.f 246) #[.int .i64 u, .int .i64 10] w fun e w' => e = .returned (.string (digR u)) ∧ Below w.heap.size w w' := by
  by_cases hs : u < 100
  · refine (Any.internal_strconv_FormatInt_10_small { L with } u hs w).mono ?_
    rintro e w' ⟨rfl, rfl⟩
    exact ⟨by rw [digR_lib], Below.refl _ _⟩
  have mixed := L.mixed
  have t2 := L.t2; have a2 := L.a2; have z2 := L.z2; have v2 := L.v2
  have t3 := L.t3; have a3 := L.a3; have z3 := L.z3; have v3 := L.v3
  have t9 := L.t9; have a9 := L.a9; have z9 := L.z9; have v9 := L.v9
  have t4 := L.t4; have a4 := L.a4; have z4 := L.z4; have v4 := L.v4
  have t171 := L.t171; have a171 := L.a171; have z171 := L.z171; have v171 := L.v171
  have t0 := L.t0; have a0 := L.a0; have z0 := L.z0; have v0 := L.v0
  have t53 := L.t53; have a53 := L.a53; have z53 := L.z53; have v53 := L.v53
  have t37 := L.t37; have a37 := L.a37; have z37 := L.z37; have v37 := L.v37
  have t5 := L.t5; have a5 := L.a5; have z5 := L.z5; have v5 := L.v5
  have t173 := L.t173; have a173 := L.a173; have z173 := L.z173; have v173 := L.v173
  have e283 : ∀ args w, (callFunc (ρ.f 283) args).run P w = .ok (.enter (ρ.f 283) args) w := enters_of L.f283 (by kernel_rfl) rfl
  have e284 : ∀ args w, (callFunc (ρ.f 284) args).run P w = .ok (.enter (ρ.f 284) args) w := enters_of L.f284 (by kernel_rfl) rfl
  have e285 : ∀ args w, (callFunc (ρ.f 285) args).run P w = .ok (.enter (ρ.f 285) args) w := enters_of L.f285 (by kernel_rfl) rfl
  have hu1 : 1 ≤ u := by omega
  have hu64 : u < 18446744073709551616 := by omega
  have h19 := (numDigits_eq u hu1 hu64).2
  have hnd20 : nDigits u ≤ 20 := by have := numDigits_eq u hu1 hu64; split at this <;> omega
  have hb3 : nDigits u ≤ 23 := by omega
  have hal : P.arrayLen (ρ.t 171) = 24 := by simp [Program.arrayLen, L.t171]
  have hsl1 : ∀ W, (Instr.sliceAt (ρ.t 171) (.pointer (some ⟨w.heap.size, 0, none⟩)) (some (.int .i64 1)) (some (.int .i64 (1 + (nDigits u : Int)))) none).run P W = .ok (.slice (some ⟨w.heap.size, 1, none⟩) (nDigits u) 23) W := fun W => by
    rw [run_sliceAt_array_lh W (ρ.t 171) ⟨w.heap.size, 0, none⟩ (by simp [Program.arrayLen, Program.elem, L.t171]) .i64 .i64 1 (1 + (nDigits u : Int)) (by omega) (by omega) (by rw [hal]; omega)]
    go_simp
    omega
  have hH0 := holds_zero w (ρ.t 171) (nDigits u) (by omega)
  have hfmt := Any.internal_strconv_formatBase10 { L with } w.heap.size 1 23 u (Array.replicate (nDigits u) 0) (w.alloc (.cells zeros24 (ρ.t 171))) hH0 (by rw [Array.size_replicate]; exact lt_pow_nDigits u) hu64 (by rw [Array.size_replicate]; omega)
  rw [Array.size_replicate] at hfmt
  have hcell : (w.alloc (.cells zeros24 (ρ.t 171))).cell? ⟨ρ.g 17, l10 (Lib.bitLen u), none⟩ = some (.int .u64 ((10 ^ l10 (Lib.bitLen u) : Nat) : Int)) := by
    have h := hc (l10 (Lib.bitLen u)) (by omega)
    have hlt : ρ.g 17 < w.heap.size := by
      unfold World.cell? at h
      rcases hh : w.heap[ρ.g 17]? with _ | ob
      · rw [hh] at h; cases h
      · exact (Array.getElem?_eq_some_iff.1 hh).1
    unfold World.cell? at h ⊢
    rw [Below.heap_alloc w _ _ hlt]; exact h
  have HH0 := Lib.hid hH0
  have Hc := Lib.hid hc
  clear hH0 hal hc
  go_enter L.f246, Body.n246_ntmps ρ
  go_wp2_with (first
    | (go_at_fn (ρ.f 284); refine (nd_calls { L with } u hu1 hu64 _ hcell).mono ?_; rintro e w' ⟨rfl, rfl⟩))
  go_at_fn (ρ.f 285)
  refine hfmt.mono ?_
  rintro e w' ⟨rfl, k, v', dk, rfl, hF⟩
  have hcv : (convert (ρ.t 37) (ρ.t 9) (.slice (some ⟨w.heap.size, 1, none⟩) (nDigits u) 23)).run P ((putRow (fun (b : UInt8) => Value.int .u8 (b.toNat : Int)) (w.alloc (.cells zeros24 (ρ.t 171))) w.heap.size 1 dk).drewN k) = .ok (.string ⟨(decDigits u).toArray⟩) ((putRow (fun (b : UInt8) => Value.int .u8 (b.toNat : Int)) (w.alloc (.cells zeros24 (ρ.t 171))) w.heap.size 1 dk).drewN k) := by
    have h := run_convert_bytes_back (P := P) ((putRow (fun (b : UInt8) => Value.int .u8 (b.toNat : Int)) (w.alloc (.cells zeros24 (ρ.t 171))) w.heap.size 1 dk).drewN k) (ρ.t 37) (ρ.t 9) (ρ.t 5) ⟨w.heap.size, 1, none⟩ 23 (decDigits u) L.t37 L.t5 L.t9 (fun j hj => by
      rw [row_is_numeral hF j hj, Lib.add_plain, World.cell?_drewN]
      exact cell?_putRow (fun (b : UInt8) => Value.int .u8 (b.toNat : Int)) _ w.heap.size 1 _ dk HH0.out (by rw [hF.size, Array.size_replicate]) j (by rw [hF.size]; rw [decDigits_length] at hj; exact hj))
    rw [decDigits_length] at h
    exact h
  go_wp2
  go_ret
  obtain ⟨os, eo⟩ := fin_pos w (.cells zeros24 (ρ.t 171)) dk k
  refine ⟨by rw [digR_lib]; rfl, ?_⟩
  rw [eo]
  exact ⟨rfl, rfl, rfl, (by simp [grow]), fun c hc => (by show (w.heap ++ os)[c]? = w.heap[c]?; rw [Array.getElem?_append_left hc])⟩
end
theorem formatInt_spec (hg : gl (laysM246_ren.g 17) = p10D) (n : Nat) (hn : n ≤ 999999) : TriD Tryz.prog gl 132 [.v (.int .i64 n), .v (.int .i64 10)] (· = .v (.string (digR n))) :=
  triD_of_calls fun m w vs hm hG hd => by
    obtain ⟨x, l, rfl, hx, y, l2, rfl, hy, rfl⟩ := hd
    cases hx
    cases hy
    exact fmt_calls laysM246 n hn w fun i hi => p10_cell hm (hg ▸ hG (laysM246_ren.g 17)) hi
end Go.Proofs.YtneaancanfpdhaaGreatDoor
namespace Go.Proofs.YtneaancanfpdhaaGreatDoor
open Go Go.Vd Go.RowKit Go.Shelf Go.Sort Go.Lib
variable {g gl : Nat → List D}
end Go.Proofs.YtneaancanfpdhaaGreatDoor
namespace Go.Proofs.YtneaancanfpdhaaGreatDoor
open Go Go.Vd Go.RowKit
attribute [local irreducible] Runs OpsR OpR FloatR AnyR AnyO
variable {g gl : Nat → List D}
theorem itoaIn_spec (hg : gl (laysM246_ren.g 17) = p10D) (n : Nat) (hn : n ≤ 999999) : TriD Tryz.prog gl 113 [.v (.int .i64 n)] (· = .v (.string (digR n))) := by
  refine triD_of_runs Tryz.func113 rfl Tryz.ntmps113 (rs := [.tmp 2]) rfl rfl rfl ?_
  refine sr ?_; refine o1 (asg ?_); refine nx ?_; refine sr ?_; refine o1 (mv ?_); refine oc (cv ca132 rfl rfl (formatInt_spec hg n hn) (fir (fir .nil)) ?_); refine o1 (asg ?_); refine nx ?_; refine runs_ret ?_; refine fin_ret ?_
  refine fin_d1 rfl rfl ?_
  rfl
theorem itoa_spec (hg : gl (laysM246_ren.g 17) = p10D) (n : Nat) (hn : n ≤ 999999) : TriD Tryz.prog gl 81 [.v (.int .i64 n)] (· = .v (.string (digR n))) := by
  refine triD_of_runs Tryz.func81 rfl Tryz.ntmps81 (rs := [.tmp 2]) rfl rfl rfl ?_
  refine sr ?_; refine o1 (asg ?_); refine nx ?_; refine sr ?_; refine o1 (mv ?_); refine oc (cv ca113 rfl rfl (itoaIn_spec hg n hn) (fir .nil) ?_); refine o1 (asg ?_); refine nx ?_; refine runs_ret ?_; refine fin_ret ?_
  refine fin_d1 rfl rfl ?_
  rfl
theorem wordT_drop {k : Int} (h0 : 0 ≤ k) (h6 : k ≤ 6) : ∃ r, dropO (k.toNat * 1) (glQ g 1) = some (.v (.string (wordT k)) :: r) := by
  have : k = 0 ∨ k = 1 ∨ k = 2 ∨ k = 3 ∨ k = 4 ∨ k = 5 ∨ k = 6 := by omega
  rcases this with rfl | rfl | rfl | rfl | rfl | rfl | rfl <;> exact ⟨_, rfl⟩
theorem hdT_2 {s : ByteArray} : hdT 2 s = ⟨#[40]⟩ ++ wordT 2 ++ (⟨#[32]⟩ ++ s) := by unfold hdT; rw [if_pos rfl]; simp only [ByteArray.append_assoc]
theorem hdT_no {k : Int} {s : ByteArray} (h : ¬ k = 2) : hdT k s = ⟨#[40]⟩ ++ wordT k := by unfold hdT; rw [if_neg h]
theorem twrite_spec (h3 : g 3 = wordsD) (h7 : g (laysM246_ren.g 17) = p10D) : ∀ (n : Nat) (k m : Int) (s : ByteArray) (ls : List Lvl) (args : List Trm) (used : Bool) (b : ByteArray), wtT (.mk k m s ls args) ≤ n → wtT (.mk k m s ls args) ≤ 1099511627776 → okT (.mk k m s ls args) → b.size + (wrT (.mk k m s ls args)).size ≤ 35184372088832 →
    Tri Tryz.prog (glQ g) 66 (bldO used b) [.blk 0 0, .d (Trm.mk k m s ls args).d] fun out ob' => out = .ret (.d (.tup [])) ∧ ob' = bldO true (b ++ wrT (.mk k m s ls args)) := by
  intro n
  induction n with
  | zero => intro k m s ls args used b h; simp [wtT] at h
  | succ n ih =>
    intro k m s ls args used b hn hb ho hsize
    have hwt := wrT_size _ ho
    obtain ⟨h0, h6, hm0, hm, hl, ha⟩ := ho
    have hll := wtLs_len ls
    have hlt := wtTs_len args
    simp only [wtT] at hn hb hwt
    have hle1 := lvls_len ls
    have hle2 := trms_len args
    by_cases hk : k = 0
    · subst hk
      obtain ⟨m, rfl⟩ := Int.eq_ofNat_of_zero_le hm0
      have hd5 := digR_size6 (n := m) (by omega)
      rw [wrT_var] at hsize ⊢
      simp only [Int.toNat_natCast] at hsize ⊢
      have hck := ws_spec (gl := glQ g) used b (⟨#[35]⟩ ++ digR m) (ne_of_size (by simp only [ByteArray.size_append, size_mk, List.size_toArray, List.length_cons, List.length_nil]; omega)) (by omega)
      cases used
      all_goals (
        unfold bldO bldA
        dsimp only [cond_true, cond_false]
        refine triS_of_runs Tryz.func66 rfl Tryz.ntmps66 (rs := []) rfl rfl rfl 2 rfl ?_
        refine sr ?_; refine oc (T := fun _ => False) (bx ti31 ?_ (hl := by simp only [List.length_cons, List.length_nil, Nat.reduceAdd]; rfl)); refine nx ?_; refine runs_seq ?_; refine sr ?_; refine o1 (fdb ti31 ?_); refine o1 (ldb ti3 ?_)
        refine o1 (ieq ?_); refine nx ?_; refine cdf (fun h1 => ?_) (fun h1 => ?_)
        · simp only [nrm, Int.reduceEq, Int.reduceNe, Int.reduceLT, Int.reduceLE] at h1
        (try simp only [nrm, Int.reduceEq, Int.reduceNe, Int.reduceLT, Int.reduceLE] at h1); refine kp [3, 0] ?_; refine sr ?_; refine o1 (mv ?_); refine o1 (fdb ti31 ?_); refine o1 (ldb ti3 ?_)
        refine oc (cv ca81 rfl rfl (itoa_spec (gl := glQ g) h7 m (by omega)) (fir .nil) ?_); refine o1 (f_sadd ?_ (hb := by (try simp only [ByteArray.size_append, size_mk, List.size_toArray, List.length_cons, List.length_nil]); omega))
        refine oc (ck ca79 rfl rfl (hck) [0, 1] rfl (boc (bor .nil)) (fir (fir .nil)) ?_); refine nx ?_; refine runs_ret ?_; refine seq_ret ?_; refine fin_ret ?_
        refine fin_od (l := []) rfl rfl ([0, 1]) (bldO true (b ++ (⟨#[35]⟩ ++ digR m))) rfl rfl rfl ?_ ?_
        · repeat (first | exact boz | refine boc ?_ | refine bor ?_)
        · exact ⟨rfl, rfl⟩
      )
    · rw [wrT_hd hk] at hwt hsize ⊢
      simp only [ByteArray.size_append, size_mk, List.size_toArray, List.length_cons, List.length_nil] at hwt hsize
      have hw5 := wordT_size k
      have hh1 : (⟨#[40]⟩ ++ wordT k : ByteArray).size = 1 + (wordT k).size := by simp only [ByteArray.size_append, size_mk, List.size_toArray, List.length_cons, List.length_nil]
      have hh2 : (⟨#[32]⟩ ++ s : ByteArray).size = 1 + s.size := by simp only [ByteArray.size_append, size_mk, List.size_toArray, List.length_cons, List.length_nil]
      obtain ⟨rr, hat⟩ := wordT_drop (g := g) h0 h6
      have hck := ws_spec (gl := glQ g) used b (⟨#[40]⟩ ++ wordT k) (ne_of_size (by omega)) (by omega)
      cases used
      all_goals (
        unfold bldO bldA
        dsimp only [cond_true, cond_false]
        refine triS_of_runs Tryz.func66 rfl Tryz.ntmps66 (rs := []) rfl rfl rfl 2 rfl ?_
        refine sr ?_; refine oc (T := fun _ => False) (bx ti31 ?_ (hl := by simp only [List.length_cons, List.length_nil, Nat.reduceAdd]; rfl)); refine nx ?_; refine runs_seq ?_; refine sr ?_; refine o1 (fdb ti31 ?_); refine o1 (ldb ti3 ?_)
        refine o1 (ieq ?_); refine nx ?_; refine cd (fun h1 => ?_) (fun h1 => ?_)
        · (try simp only [nrm, Int.reduceEq, Int.reduceNe, Int.reduceLT, Int.reduceLE] at h1); contradiction
        (try simp only [nrm, Int.reduceEq, Int.reduceNe, Int.reduceLT, Int.reduceLE] at h1); refine runs_skip ?_; refine seq_normal ?_; refine kp [3, 0] ?_; refine sr ?_; refine o1 (mv ?_); refine o1 (fdb ti31 ?_); refine o1 (ldb ti3 ?_)
        refine o1 (f_index_arr ua121 ti9 ?_ (hl := by exact (hat))); refine o1 (ldc ti9 ?_); refine o1 (f_sadd ?_ (hb := by (try simp only [ByteArray.size_append, size_mk, List.size_toArray, List.length_cons, List.length_nil]); omega))
        refine oc (ck ca79 rfl rfl (hck) [0, 1] rfl (boc (bor .nil)) (fir (fir .nil)) ?_); refine nx ?_; refine runs_seq ?_; refine kp [3, 0] ?_; refine sr ?_; refine o1 (fdb ti31 ?_); refine o1 (ldb ti3 ?_); refine o1 (ieq ?_); refine nx ?_
        refine kp [26, 3, 0] ?_
        apply runs_cut_o (ι := ByteArray) (fun hd => []) (fun hd => [.cells [.blk 0 0, .own 1 1 (bytesD hd)] 91, .row 5 1, .cells [.d (.v (.int .i64 k)), .d (.v (.int .i64 m)), .d (.v (.string s)), .d (.sl 3 (lvls ls)), .d (.sl 5 (trms args))] 31]) [3, 0] (fun hd => hd = b ++ hdT k s)
        case hk => exact rfl
        case h1 =>
          refine cdf (fun h4 => ?_) (fun h4 => ?_)
          · (try simp only [nrm, Int.reduceEq, Int.reduceNe, Int.reduceLT, Int.reduceLE] at h4)
            refine runs_skip ?_; refine seq_back ?_; refine back_c (b ++ (⟨#[40]⟩ ++ wordT k)) rfl ?_ ([0, 1, 2]) ?_
            · rw [hdT_no h4]
            · refine mo ?_ (sly (sly slz))
              repeat (first | exact boz | refine boc ?_ | refine bor ?_)
          (try simp only [nrm, Int.reduceEq, Int.reduceNe, Int.reduceLT, Int.reduceLE] at h4); refine runs_region ?_; refine o1 (mv ?_); refine o1 (fdb ti31 ?_); refine o1 (ldb ti9 ?_)
          refine o1 (f_sadd ?_ (hb := by (try simp only [ByteArray.size_append, size_mk, List.size_toArray, List.length_cons, List.length_nil]); omega))
          refine oc (ck ca79 rfl rfl (ws_spec true (b ++ (⟨#[40]⟩ ++ wordT k)) (⟨#[32]⟩ ++ s) (ne_of_size (by omega)) (by rw [ByteArray.size_append]; omega)) [0, 1] rfl (boc (bor .nil)) (fir (fir .nil)) ?_); refine ops_nil ?_; refine seq_back ?_
          refine back_c (b ++ (⟨#[40]⟩ ++ wordT k) ++ (⟨#[32]⟩ ++ s)) rfl ?_ ([0, 1, 2]) ?_
          · rw [h4, hdT_2]; simp only [ByteArray.append_assoc]
          · refine mo ?_ (sly (sly slz))
            repeat (first | exact boz | refine boc ?_ | refine bor ?_)
        case h2 =>
          rintro hd hcut
          try dsimp only at hcut
          refine kp [3, 0] ?_; refine runs_seq ?_; refine runs_seq ?_
          subst hcut
          refine runs_region ?_; refine o1 (fdb ti31 ?_); refine o1 (ldb ti28 ?_); refine o1 (le1 us28 ?_); refine o1 (mv ?_); refine nx ?_; refine runs_block ?_; refine kp [35, 34, 33, 3, 0] ?_
          rw [show b ++ hdT k s = b ++ hdT k s ++ wrL (ls.take 0) by simp [wrL]]
          apply runs_loop_o (ι := Nat) (fun i => [(35, int i)]) (fun i => [.cells [.blk 0 0, .own 1 1 (bytesD (b ++ hdT k s ++ wrL (ls.take i)))] 91, .row 5 1, .cells [.d (.v (.int .i64 k)), .d (.v (.int .i64 m)), .d (.v (.string s)), .d (.sl 3 (lvls ls)), .d (.sl 5 (trms args))] 31]) [34, 33, 3, 0] (fun i => i ≤ ls.length) (fun i => ls.length - i) (0) ([0, 1, 2])
          case hk => exact rfl
          case hI =>
            exact Nat.zero_le _
          case hm =>
            refine mo ?_ (sly (sly (sly (sly (sly slz)))))
            repeat (first | exact boz | refine boc ?_ | refine bor ?_)
          case h =>
            rintro i hinv
            try dsimp only at hinv
            refine kp [35, 34, 33, 3, 0] ?_; refine sr ?_; refine o1 (ilt ?_); refine nx ?_; refine runs_seq ?_; refine cd (fun h7 => ?_) (fun h7 => ?_)
            · (try simp only [nrm, Int.reduceEq, Int.reduceNe, Int.reduceLT, Int.reduceLE] at h7)
              refine runs_skip ?_; refine seq_normal ?_; refine runs_seq ?_; refine runs_block ?_; refine runs_seq ?_
              have hget : ls[i]? = some ls[i] := by simp
              obtain ⟨x, hx, hfx⟩ := okLs_get hl hget
              rw [hx] at hget
              have hwx := wtL_get hget
              rw [wtL_lev] at hwx
              have hpx := x.print_size
              have hsx := x.size_le_weight
              rw [← x.size_toLvl] at hsx
              have hwl := wr_lev x
              obtain ⟨k1, s1, a1, hX⟩ := Lvl.case x.toLvl
              rw [hX] at hget hfx hwl hsx
              have hst := wrL_take_le ls (i + 1)
              have hnext : b ++ hdT k s ++ wrL (ls.take i) ++ (⟨#[32]⟩ ++ wr (.mk k1 s1 a1)) = b ++ hdT k s ++ wrL (ls.take (i + 1)) := (by rw [wrL_take hget]; simp only [ByteArray.append_assoc])
              rw [wrL_take hget, hwl] at hst
              simp only [ByteArray.size_append, size_mk, List.size_toArray, List.length_cons, List.length_nil] at hst
              have hh3 : (⟨#[32]⟩ ++ wr (.mk k1 s1 a1) : ByteArray).size = 1 + x.print.size := (by rw [hwl]; simp only [ByteArray.size_append, size_mk, List.size_toArray, List.length_cons, List.length_nil])
              have hh4 : (wr (.mk k1 s1 a1)).size = x.print.size := (by rw [hwl])
              refine runs_region ?_; refine o1 (ixs us28 te28 ?_ (he := by exact (lvl_at hget))); refine o1 (ldc ti45 ?_); refine oc (T := fun _ => False) (alc ti45 ?_ (hl := by simp only [List.length_cons, List.length_nil, Nat.reduceAdd]; rfl))
              refine oc (sto ti45 ?_); refine nx ?_; refine runs_region ?_; refine o1 (mv ?_); refine o1 (ldb ti45 ?_); refine oc (cv ca99 rfl rfl (pprint_spec (gl := glQ g) h3 k1 s1 a1 (by omega) hfx (by omega)) (fid .nil) ?_)
              refine o1 (f_sadd ?_ (hb := by (try simp only [ByteArray.size_append, size_mk, List.size_toArray, List.length_cons, List.length_nil]); omega))
              refine oc (ck ca79 rfl rfl (ws_spec true (b ++ hdT k s ++ wrL (ls.take i)) (⟨#[32]⟩ ++ wr (.mk k1 s1 a1)) (ne_of_size (by omega)) (by simp only [ByteArray.size_append] at hh3 hsize ⊢; omega)) [0, 1] rfl (boc (bor .nil)) (fir (fir .nil)) ?_)
              refine ops_nil ?_; refine inb_normal ?_; refine seq_normal ?_; refine kp [35, 34, 33, 3, 0] ?_; refine runs_region ?_; refine o1 (iad ?_); refine o1 (mv ?_); refine ops_nil ?_; refine seq_back ?_
              rw [hnext]
              refine back_c (i + 1) rfl ?_ ([0, 1, 2]) ?_
              · exact ⟨by omega, by omega⟩
              · refine mo ?_ (sly (sly (sly (sly (sly slz)))))
                repeat (first | exact boz | refine boc ?_ | refine bor ?_)
            (try simp only [nrm, Int.reduceEq, Int.reduceNe, Int.reduceLT, Int.reduceLE] at h7); refine runs_exit ?_; refine seq_exit ?_; refine seq_exit ?_; refine inb_exit ?_; refine seq_normal ?_; refine runs_seq ?_; refine runs_seq ?_
            refine kp [3, 0] ?_; obtain rfl : i = ls.length := (by omega)
            rw [List.take_length]
            refine runs_region ?_; refine o1 (fdb ti31 ?_); refine o1 (ldb ti29 ?_); refine o1 (le1 us29 ?_); refine o1 (mv ?_); refine nx ?_; refine runs_block ?_; refine kp [48, 47, 46, 0] ?_
            rw [show b ++ hdT k s ++ wrL ls = b ++ hdT k s ++ wrL ls ++ wrTs (args.take 0) by simp [wrTs]]
            apply runs_loop_o (ι := Nat) (fun j => [(48, int j)]) (fun j => [.cells [.blk 0 0, .own 1 1 (bytesD (b ++ hdT k s ++ wrL ls ++ wrTs (args.take j)))] 91, .row 5 1, .cells [.d (.v (.int .i64 k)), .d (.v (.int .i64 m)), .d (.v (.string s)), .d (.sl 3 (lvls ls)), .d (.sl 5 (trms args))] 31]) [47, 46, 0] (fun j => j ≤ args.length) (fun j => args.length - j) (0) ([0, 1, 2])
            case hk => exact rfl
            case hI =>
              exact Nat.zero_le _
            case hm =>
              refine mo ?_ (sly (sly (sly (sly slz))))
              repeat (first | exact boz | refine boc ?_ | refine bor ?_)
            case h =>
              rintro j hinv
              try dsimp only at hinv
              refine kp [48, 47, 46, 0] ?_; refine sr ?_; refine o1 (ilt ?_); refine nx ?_; refine runs_seq ?_; refine cdf (fun h12 => ?_) (fun h12 => ?_)
              · (try simp only [nrm, Int.reduceEq, Int.reduceNe, Int.reduceLT, Int.reduceLE] at h12)
                refine runs_exit ?_; refine seq_exit ?_; refine seq_exit ?_; refine inb_exit ?_; refine seq_normal ?_; refine kp [0] ?_; obtain rfl : j = args.length := (by omega)
                rw [List.take_length]
                refine runs_region ?_; refine o1 (mv ?_); refine oc (ck ca100 rfl rfl (wb_spec true (b ++ hdT k s ++ wrL ls ++ wrTs args) 41 (by simp only [ByteArray.size_append]; omega)) [0, 1] rfl (boc (bor .nil)) (fir (fir .nil)) ?_); refine ops_nil ?_
                refine fin_normal ?_; refine fin_od (l := []) rfl rfl ([0, 1]) (bldO true (b ++ hdT k s ++ wrL ls ++ wrTs args ++ ⟨#[41]⟩)) rfl rfl rfl ?_ ?_
                · repeat (first | exact boz | refine boc ?_ | refine bor ?_)
                · refine ⟨rfl, ?_⟩; simp only [ByteArray.append_assoc]; rfl
              (try simp only [nrm, Int.reduceEq, Int.reduceNe, Int.reduceLT, Int.reduceLE] at h12); refine runs_skip ?_; refine seq_normal ?_; refine runs_seq ?_; refine runs_block ?_; refine runs_seq ?_
              obtain ⟨k2, n2, s2, l2, a2, hget⟩ := trm_get (show j < args.length by omega)
              have hwx := wtT_get hget
              have hox := okT_get ha hget
              have hst := wrTs_take_le args (j + 1)
              have hnext : b ++ hdT k s ++ wrL ls ++ wrTs (args.take j) ++ ⟨#[32]⟩ ++ wrT (.mk k2 n2 s2 l2 a2) = b ++ hdT k s ++ wrL ls ++ wrTs (args.take (j + 1)) := (by rw [wrTs_take hget]; simp only [ByteArray.append_assoc])
              rw [wrTs_take hget] at hst
              simp only [ByteArray.size_append, size_mk, List.size_toArray, List.length_cons, List.length_nil] at hst
              refine runs_region ?_; refine o1 (ixs us29 te29 ?_ (he := by exact (trm_at hget))); refine o1 (ldc ti31 ?_); refine oc (T := fun _ => False) (alc ti31 ?_ (hl := by simp only [List.length_cons, List.length_nil, Nat.reduceAdd]; rfl))
              refine oc (sto ti31 ?_); refine nx ?_; refine sr ?_; refine o1 (mv ?_)
              refine oc (ck ca100 rfl rfl (wb_spec true (b ++ hdT k s ++ wrL ls ++ wrTs (args.take j)) 32 (by simp only [ByteArray.size_append]; omega)) [0, 1] rfl (boc (bor .nil)) (fir (fir .nil)) ?_); refine nx ?_; refine kp [7, 48, 47, 46, 0] ?_
              refine runs_region ?_; refine o1 (mv ?_); refine o1 (ldb ti31 ?_)
              refine oc (ck ca66 rfl rfl (ih k2 n2 s2 l2 a2 true (b ++ hdT k s ++ wrL ls ++ wrTs (args.take j) ++ ⟨#[32]⟩) (by omega) (by omega) hox (by simp only [ByteArray.size_append, size_mk, List.size_toArray, List.length_cons, List.length_nil]; omega)) [0, 1] rfl (boc (bor .nil)) (fir (fid .nil)) ?_)
              refine ops_nil ?_; refine inb_normal ?_; refine seq_normal ?_; refine kp [48, 47, 46, 0] ?_; refine runs_region ?_; refine o1 (iad ?_); refine o1 (mv ?_); refine ops_nil ?_; refine seq_back ?_
              rw [hnext]
              refine back_c (j + 1) rfl ?_ ([0, 1, 2]) ?_
              · exact ⟨by omega, by omega⟩
              · refine mo ?_ (sly (sly (sly (sly slz))))
                repeat (first | exact boz | refine boc ?_ | refine bor ?_)
      )
theorem tprint_spec (h3 : g 3 = wordsD) (h7 : g (laysM246_ren.g 17) = p10D) (k m : Int) (s : ByteArray) (ls : List Lvl) (args : List Trm) (hb : wtT (.mk k m s ls args) ≤ 1099511627776) (ho : okT (.mk k m s ls args)) :
    TriD Tryz.prog (glQ g) 31 [(Trm.mk k m s ls args).d] (· = .v (.string (wrT (.mk k m s ls args)))) := by
  have hsz := wrT_size _ ho
  have hwe := twrite_spec h3 h7 _ k m s ls args false .empty (Nat.le_refl _) hb ho (by have : ByteArray.empty.size = 0 := rfl; omega)
  rw [ByteArray.empty_append] at hwe
  refine triD_of_runs Tryz.func31 rfl Tryz.ntmps31 (rs := [.tmp 2]) rfl rfl rfl ?_
  refine sr ?_; refine oc (T := fun _ => False) (bx ti31 ?_ (hl := by simp only [List.length_cons, List.length_nil, Nat.reduceAdd]; rfl)); refine o1 (asg ?_); refine nx ?_; refine sr ?_
  refine oc (T := fun _ => False) (alc ti91 ?_ (hl := by simp only [List.length_cons, List.length_nil, Nat.reduceAdd]; rfl)); refine nx ?_; refine runs_seq ?_; refine runs_nilrow 5 1 rfl ?_; refine runs_region ?_; refine o1 (ldb ti31 ?_)
  refine oc (ck ca66 rfl rfl (hwe) [1, 2] rfl (.cons rfl (.cells rfl (by repeat (first | exact fiz | refine fir ?_ | refine .cons (.nil rfl) ?_))) (bon .nil)) (fir (fid .nil)) ?_); refine nx ?_; refine kp [3] ?_; refine sr ?_
  refine oc (ck ca67 rfl rfl (bstr_spec (wrT (.mk k m s ls args)) (wrT_ne _)) [1, 2] rfl (boc (bor .nil)) (fir .nil) ?_); refine o1 (asg ?_); refine nx ?_; refine runs_ret ?_; refine fin_ret ?_; refine fin_d1 rfl rfl ?_
  rfl
end Go.Proofs.YtneaancanfpdhaaGreatDoor
namespace Go.Proofs.YtneaancanfpdhaaGreatDoor
open Go Go.Vd Go.RowKit
attribute [local irreducible] Runs OpsR OpR FloatR AnyR AnyO
variable {g gl : Nat → List D}
theorem parseTerm_spec (s : ByteArray) : TriD Tryz.prog (glT g) 9 [.v (.string s)] (· = .tup [(parseT s).1.d, .agg [.v (.int .i64 (parseT s).2.1), .v (.int .i64 (parseT s).2.2)]]) := by
  refine triD_of_runs Tryz.func9 rfl Tryz.ntmps9 (rs := [.cell 2 31, .cell 3 33]) rfl rfl rfl ?_
  refine sr ?_; refine oc (T := fun _ => False) (alc ti31 ?_ (hl := by simp only [List.length_cons, List.length_nil, Nat.reduceAdd]; rfl))
  refine oc (T := fun _ => False) (alc ti33 ?_ (hl := by simp only [List.length_cons, List.length_nil, Nat.reduceAdd]; rfl)); refine nx ?_; refine runs_seq ?_; refine sr ?_; refine o1 (mv ?_); refine o1 (le3 ut9 ?_); refine o1 (igt ?_)
  refine nx ?_; refine cd (fun h1 => ?_) (fun h1 => ?_)
  · (try simp only [nrm, Int.reduceEq, Int.reduceNe, Int.reduceLT, Int.reduceLE] at h1)
    refine kp [3, 2] ?_; refine sr ?_; refine o1 (bld ti31 ?_); refine o1 (bld ti33 ?_); refine oc (sto ti31 ?_); refine oc (sto ti33 ?_); refine nx ?_; refine runs_ret ?_; refine seq_ret ?_; refine fin_ret ?_
    refine fin_dl ⟨_, _, rfl, (from_cell rfl rfl ti31 rfl rfl rfl rfl), ⟨_, _, rfl, (from_cell rfl rfl ti33 rfl rfl rfl rfl), rfl⟩⟩ rfl (.tup [zeroT.d, .agg [.v (.int .i64 2), .v (.int .i64 0)]]) (by repeat (first | exact .refl _ | exact .nil | refine .agg ?_ | refine .tup ?_ | refine .cons ?_ ?_)) ?_
    unfold parseT; rw [if_pos (by omega)]
  (try simp only [nrm, Int.reduceEq, Int.reduceNe, Int.reduceLT, Int.reduceLE] at h1); refine runs_skip ?_; refine seq_normal ?_; refine sr ?_; refine o1 (mv ?_); refine o1 (bld ti71 ?_)
  refine oc (T := fun _ => False) (bx ti71 ?_ (hl := by simp only [List.length_cons, List.length_nil, Nat.reduceAdd]; rfl)); refine o1 (asg ?_); refine nx ?_; refine runs_seq ?_; refine kp [4, 3, 2] ?_
  obtain ⟨k1, n1, s1, l1, a1, hX⟩ := Trm.case (termR (s.size + 1) s ⟨0, none⟩).1
  have hs : s.size ≤ 1099511627776 := by omega
  have hle := termR_le (s := s) (s.size + 1) ⟨0, none⟩ (Nat.zero_le _)
  refine runs_region ?_; refine o1 (mv ?_); refine oc (op_callo ca42 rfl rfl rfl rfl (term_spec s hs (s.size + 1) ⟨0, none⟩ (Nat.zero_le _) (by simp)) [2] (boc .nil) rfl rfl rfl rfl (fir .nil) (fun s ob' hq => ?_) (fun s ob' hq => ?_))
  rotate_left
  · first | exact hq.elim | cases hq.1
  obtain ⟨hq1, rfl⟩ := hq; rw [hX] at hq1; cases hq1; refine ⟨_, _, _, _, _, rfl, rfl, rfl, rfl, rfl, ?_⟩; refine oc (T := fun _ => False) (alc ti31 ?_ (hl := by simp only [List.length_cons, List.length_nil, Nat.reduceAdd]; rfl))
  refine oc (sto ti31 ?_); refine nx ?_; refine sr ?_; refine o1 (mv ?_); refine oc (ck ca43 rfl rfl (done_spec s (termR (s.size + 1) s ⟨0, none⟩).2 hs hle.2) [2] rfl (boc .nil) (fir .nil) ?_)
  refine oc (T := fun _ => False) (alc ti33 ?_ (hl := by simp only [List.length_cons, List.length_nil, Nat.reduceAdd]; rfl)); refine oc (sto ti33 ?_); refine nx ?_; refine runs_seq ?_; refine kp [6, 5, 3, 2] ?_; refine sr ?_
  refine o1 (fdb ti33 ?_); refine o1 (ldb ti3 ?_); refine o1 (ine ?_); refine nx ?_; refine cdf (fun h6 => ?_) (fun h6 => ?_)
  · (try simp only [nrm, Int.reduceEq, Int.reduceNe, Int.reduceLT, Int.reduceLE] at h6)
    refine runs_skip ?_; refine seq_normal ?_; refine runs_seq ?_; refine a_start ?_ (hm := by exact mixed); refine A1 0 rfl (ldb ti31 ⟨_, rfl, ?_⟩); refine A1 1 rfl (ldb ti33 ⟨_, rfl, ?_⟩); refine A2 2 rfl (sto ti31 ?_)
    refine A2 3 rfl (sto ti33 ?_); refine a_end ?_; refine seq_normal ?_; refine runs_ret ?_; refine fin_ret ?_
    refine fin_dl ⟨_, _, rfl, (from_cell rfl rfl ti31 rfl rfl rfl rfl), ⟨_, _, rfl, (from_cell rfl rfl ti33 rfl rfl rfl rfl), rfl⟩⟩ rfl (.tup [(Trm.mk k1 n1 s1 l1 a1).d, .agg [.v (.int .i64 (fcode (doneR s (termR (s.size + 1) s ⟨0, none⟩).2).f)), .v (.int .i64 (fat (doneR s (termR (s.size + 1) s ⟨0, none⟩).2).f))]]) (by exact .refl _) ?_
    rw [parseT_good (by omega) h6, hX]
  (try simp only [nrm, Int.reduceEq, Int.reduceNe, Int.reduceLT, Int.reduceLE] at h6); refine runs_seq ?_; refine kp [6, 3, 2] ?_; refine a_start ?_ (hm := by exact mixed); refine A1 0 rfl (bld ti31 ⟨_, rfl, ?_⟩)
  refine A1 1 rfl (ldb ti33 ⟨_, rfl, ?_⟩); refine A2 2 rfl (sto ti31 ?_); refine A2 3 rfl (sto ti33 ?_); refine a_end ?_; refine seq_normal ?_; refine runs_ret ?_; refine seq_ret ?_; refine fin_ret ?_
  refine fin_dl ⟨_, _, rfl, (from_cell rfl rfl ti31 rfl rfl rfl rfl), ⟨_, _, rfl, (from_cell rfl rfl ti33 rfl rfl rfl rfl), rfl⟩⟩ rfl (.tup [zeroT.d, .agg [.v (.int .i64 (fcode (doneR s (termR (s.size + 1) s ⟨0, none⟩).2).f)), .v (.int .i64 (fat (doneR s (termR (s.size + 1) s ⟨0, none⟩).2).f))]]) (by repeat (first | exact .refl _ | exact .nil | refine .agg ?_ | refine .tup ?_ | refine .cons ?_ ?_)) ?_
  rw [parseT_bad (by omega) h6]
theorem alike_spec : ∀ (n : Nat) (k m : Int) (s : ByteArray) (ls : List Lvl) (args : List Trm) (k2 m2 : Int) (s2 : ByteArray) (ls2 : List Lvl) (args2 : List Trm), (Trm.mk k m s ls args).size ≤ n → (Trm.mk k m s ls args).size ≤ 1099511627776 →
    TriD Tryz.prog gl 55 [(Trm.mk k m s ls args).d, (Trm.mk k2 m2 s2 ls2 args2).d, .v (.bool false)] (· = .v (.bool (Trm.same (.mk k m s ls args) (.mk k2 m2 s2 ls2 args2)))) := by
  intro n
  induction n with
  | zero => intro k m s ls args k2 m2 s2 ls2 args2 h; simp [Trm.size] at h
  | succ n ih =>
    intro k m s ls args k2 m2 s2 ls2 args2 hn hb
    have hsz : sizesT args ≤ n := by simp [Trm.size] at hn; omega
    have hlen := trms_len args
    have hlen2 := trms_len args2
    have hlb := trms_size args
    have hlenL := lvls_len ls
    have hlenL2 := lvls_len ls2
    have hlbL := lvls_size ls
    simp only [Trm.size] at hb
    refine triD_of_runs Tryz.func55 rfl Tryz.ntmps55 (rs := [.tmp 6]) rfl rfl rfl ?_
    refine sr ?_; refine oc (T := fun _ => False) (bx ti31 ?_ (hl := by simp only [List.length_cons, List.length_nil, Nat.reduceAdd]; rfl))
    refine oc (T := fun _ => False) (bx ti31 ?_ (hl := by simp only [List.length_cons, List.length_nil, Nat.reduceAdd]; rfl)); refine o1 (asg ?_); refine nx ?_; refine runs_seq ?_; refine sr ?_; refine o1 (fdb ti31 ?_); refine o1 (ldb ti3 ?_)
    refine o1 (fdb ti31 ?_); refine o1 (ldb ti3 ?_); refine o1 (ine ?_); refine o1 (mv ?_)
    apply ops_or (yt := 21) (d := 16) 5 rfl rfl rfl (.none rfl) rfl rfl
    case h1 =>
      intro hb10 hK
      have hc := hb10; (try simp only [nrm, Int.reduceEq, Int.reduceNe, Int.reduceLT, Int.reduceLE] at hc)
      refine gye ?_ (hbw := by exact hb10); refine o1 (fdb ti31 ?_); refine gye ?_ (hbw := by exact hb10); refine o1 (ldb ti3 ?_); refine gye ?_ (hbw := by exact hb10); refine o1 (fdb ti31 ?_); refine gye ?_ (hbw := by exact hb10)
      refine o1 (ldb ti3 ?_); refine gye ?_ (hbw := by exact hb10); refine o1 (ine ?_); exact hK [_, _, _, _, _] rfl rfl
    case h2 =>
      intro hb10 hK; refine gno ?_ (hbw := by exact hb10); refine gno ?_ (hbw := by exact hb10); refine gno ?_ (hbw := by exact hb10); refine gno ?_ (hbw := by exact hb10); refine gno ?_ (hbw := by exact hb10); exact hK [_, _, _, _, _] rfl
    refine o1 (mv ?_)
    apply ops_or (yt := 28) (d := 23) 5 rfl rfl rfl (.none rfl) rfl rfl
    case h1 =>
      intro hb24 hK
      have hc := hb24; (try simp only [nrm, Int.reduceEq, Int.reduceNe, Int.reduceLT, Int.reduceLE] at hc)
      refine gye ?_ (hbw := by exact hb24); refine o1 (fdb ti31 ?_); refine gye ?_ (hbw := by exact hb24); refine o1 (ldb ti9 ?_); refine gye ?_ (hbw := by exact hb24); refine o1 (fdb ti31 ?_); refine gye ?_ (hbw := by exact hb24)
      refine o1 (ldb ti9 ?_); refine gye ?_ (hbw := by exact hb24); refine o1 (sne ?_); exact hK [_, _, _, _, _] rfl rfl
    case h2 =>
      intro hb24 hK; refine gno ?_ (hbw := by exact hb24); refine gno ?_ (hbw := by exact hb24); refine gno ?_ (hbw := by exact hb24); refine gno ?_ (hbw := by exact hb24); refine gno ?_ (hbw := by exact hb24); exact hK [_, _, _, _, _] rfl
    refine o1 (mv ?_)
    apply ops_or (yt := 37) (d := 30) 7 rfl rfl rfl (.none rfl) rfl rfl
    case h1 =>
      intro hb38 hK
      have hc := hb38; (try simp only [nrm, Int.reduceEq, Int.reduceNe, Int.reduceLT, Int.reduceLE] at hc)
      refine gye ?_ (hbw := by exact hb38); refine o1 (fdb ti31 ?_); refine gye ?_ (hbw := by exact hb38); refine o1 (ldb ti28 ?_); refine gye ?_ (hbw := by exact hb38); refine o1 (le1 us28 ?_); refine gye ?_ (hbw := by exact hb38)
      refine o1 (fdb ti31 ?_); refine gye ?_ (hbw := by exact hb38); refine o1 (ldb ti28 ?_); refine gye ?_ (hbw := by exact hb38); refine o1 (le1 us28 ?_); refine gye ?_ (hbw := by exact hb38); refine o1 (ine ?_)
      exact hK [_, _, _, _, _, _, _] rfl rfl
    case h2 =>
      intro hb38 hK; refine gno ?_ (hbw := by exact hb38); refine gno ?_ (hbw := by exact hb38); refine gno ?_ (hbw := by exact hb38); refine gno ?_ (hbw := by exact hb38); refine gno ?_ (hbw := by exact hb38); refine gno ?_ (hbw := by exact hb38)
      refine gno ?_ (hbw := by exact hb38); exact hK [_, _, _, _, _, _, _] rfl
    refine o1 (mv ?_)
    apply ops_or (yt := 46) (d := 39) 7 rfl rfl rfl (.none rfl) rfl rfl
    case h1 =>
      intro hb56 hK
      have hc := hb56; (try simp only [nrm, Int.reduceEq, Int.reduceNe, Int.reduceLT, Int.reduceLE] at hc)
      refine gye ?_ (hbw := by exact hb56); refine o1 (fdb ti31 ?_); refine gye ?_ (hbw := by exact hb56); refine o1 (ldb ti29 ?_); refine gye ?_ (hbw := by exact hb56); refine o1 (le1 us29 ?_); refine gye ?_ (hbw := by exact hb56)
      refine o1 (fdb ti31 ?_); refine gye ?_ (hbw := by exact hb56); refine o1 (ldb ti29 ?_); refine gye ?_ (hbw := by exact hb56); refine o1 (le1 us29 ?_); refine gye ?_ (hbw := by exact hb56); refine o1 (ine ?_)
      exact hK [_, _, _, _, _, _, _] rfl rfl
    case h2 =>
      intro hb56 hK; refine gno ?_ (hbw := by exact hb56); refine gno ?_ (hbw := by exact hb56); refine gno ?_ (hbw := by exact hb56); refine gno ?_ (hbw := by exact hb56); refine gno ?_ (hbw := by exact hb56); refine gno ?_ (hbw := by exact hb56)
      refine gno ?_ (hbw := by exact hb56); exact hK [_, _, _, _, _, _, _] rfl
    refine nx ?_; refine cd (fun h1 => ?_) (fun h1 => ?_)
    · (try simp only [nrm, Int.reduceEq, Int.reduceNe, Int.reduceLT, Int.reduceLE] at h1)
      refine kp [] ?_; refine sr ?_; refine o1 (asg ?_); refine nx ?_; refine runs_ret ?_; refine seq_ret ?_; refine fin_ret ?_; refine fin_d1 rfl rfl ?_
      rw [Trm.same_eq]
      rcases h1 with (((h | h) | h) | h) | h
      · simp [h]
      · simp [h]
      · simp [h]
      · have : sameL ls ls2 = false := by
          cases hs : sameL ls ls2 with
          | false => rfl
          | true => exact absurd (by have := sameL_len hs; omega) h
        simp [this]
      · have : sameT args args2 = false := by
          cases hs : sameT args args2 with
          | false => rfl
          | true => exact absurd (by have := sameT_len hs; omega) h
        simp [this]
    (try simp only [nrm, Int.reduceEq, Int.reduceNe, Int.reduceLT, Int.reduceLE] at h1); refine runs_skip ?_; refine seq_normal ?_; refine runs_seq ?_; refine kp [4, 3, 2] ?_; refine sr ?_; refine o1 (asg ?_); refine nx ?_; refine runs_block ?_
    apply runs_loop_c (ι := Nat) (fun i => [(7, int i)]) [4, 3, 2] (fun i => i ≤ ls.length ∧ sameL (ls.take i) (ls2.take i) = true) (fun i => ls.length - i) (0)
    case hk => exact rfl
    case hI =>
      exact ⟨Nat.zero_le _, by simp [sameL]⟩
    case hm =>
      refine mo ?_ (sly (sly (sly (sly slz))))
      repeat (first | exact boz | refine boc ?_)
    case h =>
      rintro i hinv
      try dsimp only at hinv
      refine kp [7, 4, 3, 2] ?_; refine runs_seq ?_; refine sr ?_; refine o1 (mv ?_); refine o1 (fdb ti31 ?_); refine o1 (ldb ti28 ?_); refine o1 (le1 us28 ?_); refine o1 (ilt ?_); refine nx ?_; refine cd (fun h4 => ?_) (fun h4 => ?_)
      · (try simp only [nrm, Int.reduceEq, Int.reduceNe, Int.reduceLT, Int.reduceLE] at h4)
        refine runs_skip ?_; refine seq_normal ?_; refine runs_seq ?_; refine runs_block ?_; refine runs_seq ?_; refine kp [7, 4, 3, 2] ?_; obtain ⟨k', s', a', hget⟩ := lvl_get (show i < ls.length by omega)
        obtain ⟨k2', s2', a2', hget2⟩ := lvl_get (show i < ls2.length by omega)
        have hsz' := size_get hget
        refine a_start ?_ (hm := by exact mixed); refine A1 0 rfl (fdb ti31 ⟨_, rfl, ?_⟩); refine A1 1 rfl (ldb ti28 ⟨_, rfl, ?_⟩); refine A1 2 rfl (mv ⟨_, rfl, ?_⟩); refine A1 3 rfl (ixs us28 te28 ⟨_, rfl, ?_⟩ (he := by exact (lvl_at hget)))
        refine A1 4 rfl (ldc ti45 ⟨_, rfl, ?_⟩); refine A1 5 rfl (fdb ti31 ⟨_, rfl, ?_⟩); refine A1 6 rfl (ldb ti28 ⟨_, rfl, ?_⟩); refine A1 7 rfl (mv ⟨_, rfl, ?_⟩); refine A1 8 rfl (ixs us28 te28 ⟨_, rfl, ?_⟩ (he := by exact (lvl_at hget2)))
        refine A1 9 rfl (ldc ti45 ⟨_, rfl, ?_⟩); refine A2 10 rfl (cv ca94 rfl rfl (sameLvl_spec _ k' s' a' k2' s2' a2' (Nat.le_refl _) (by omega)) (fid (fid .nil)) ?_); refine A1 11 rfl (asg ⟨_, rfl, ?_⟩); refine a_end ?_; refine seq_normal ?_
        refine runs_seq ?_; refine kp [8, 7, 4, 3, 2] ?_; refine sr ?_; refine o1 (mv ?_); refine o1 (f_not ?_); refine o1 (mv ?_)
        apply ops_and (yt := 69) (d := 68) 1 rfl rfl rfl (.none rfl) rfl rfl
        case h1 =>
          intro hb5 hK
          have hc := hb5; (try simp only [nrm, Int.reduceEq, Int.reduceNe, Int.reduceLT, Int.reduceLE] at hc)
          refine gye ?_ (hbw := by exact hb5); refine o1 (mv ?_); exact hK [_] rfl rfl
        case h2 =>
          intro hb5 hK; refine gno ?_ (hbw := by exact hb5); exact hK [_] rfl
        refine nx ?_; refine cd (fun h7 => ?_) (fun h7 => ?_)
        · simp only [nrm, Int.reduceEq, Int.reduceNe, Int.reduceLT, Int.reduceLE] at h7
        (try simp only [nrm, Int.reduceEq, Int.reduceNe, Int.reduceLT, Int.reduceLE] at h7); refine runs_skip ?_; refine seq_normal ?_; refine kp [8, 7, 4, 3, 2] ?_; refine sr ?_; refine o1 (mv ?_); refine o1 (f_not ?_); refine nx ?_
        refine cd (fun h9 => ?_) (fun h9 => ?_)
        · (try simp only [nrm, Int.reduceEq, Int.reduceNe, Int.reduceLT, Int.reduceLE] at h9)
          refine kp [] ?_; refine sr ?_; refine o1 (asg ?_); refine nx ?_; refine runs_ret ?_; refine inb_ret ?_; refine seq_ret ?_; refine seq_ret ?_; refine inb_ret ?_; refine seq_ret ?_; refine fin_ret ?_; refine fin_d1 rfl rfl ?_
          rw [Trm.same_eq]; rw [sameL_false hget hget2 h9]; simp
        (try simp only [nrm, Int.reduceEq, Int.reduceNe, Int.reduceLT, Int.reduceLE] at h9); refine runs_skip ?_; refine inb_normal ?_; refine seq_normal ?_; refine runs_region ?_; refine o1 (mv ?_); refine o1 (iad ?_); refine o1 (asg ?_)
        refine ops_nil ?_; refine seq_back ?_; refine back_i (i + 1) rfl ?_ ?_
        · exact ⟨⟨by omega, by rw [sameL_take hget hget2]; simp [hinv.2, h9]⟩, by omega⟩
        · refine mo ?_ (sly (sly (sly (sly slz))))
          repeat (first | exact boz | refine boc ?_)
      (try simp only [nrm, Int.reduceEq, Int.reduceNe, Int.reduceLT, Int.reduceLE] at h4); refine runs_exit ?_; refine seq_exit ?_; refine seq_exit ?_; refine inb_exit ?_; refine seq_normal ?_; refine runs_seq ?_; refine runs_seq ?_
      refine kp [4, 3, 2] ?_
      have hL := hinv.2
      rw [List.take_of_length_le (by omega), List.take_of_length_le (by omega)] at hL
      refine runs_region ?_; refine o1 (asg ?_); refine nx ?_; refine runs_block ?_
      apply runs_loop_c (ι := Nat) (fun j => [(9, int j)]) [4, 3, 2] (fun j => j ≤ args.length ∧ sameT (args.take j) (args2.take j) = true) (fun j => args.length - j) (0)
      case hk => exact rfl
      case hI =>
        exact ⟨Nat.zero_le _, by simp [sameT]⟩
      case hm =>
        refine mo ?_ (sly (sly (sly (sly slz))))
        repeat (first | exact boz | refine boc ?_)
      case h =>
        rintro j hinv
        try dsimp only at hinv
        refine kp [9, 4, 3, 2] ?_; refine runs_seq ?_; refine sr ?_; refine o1 (mv ?_); refine o1 (fdb ti31 ?_); refine o1 (ldb ti29 ?_); refine o1 (le1 us29 ?_); refine o1 (ilt ?_); refine nx ?_; refine cdf (fun h12 => ?_) (fun h12 => ?_)
        · (try simp only [nrm, Int.reduceEq, Int.reduceNe, Int.reduceLT, Int.reduceLE] at h12)
          refine runs_exit ?_; refine seq_exit ?_; refine seq_exit ?_; refine inb_exit ?_; refine seq_normal ?_; refine kp [] ?_; refine sr ?_; refine o1 (asg ?_); refine nx ?_; refine runs_ret ?_; refine fin_ret ?_; refine fin_d1 rfl rfl ?_
          rw [Trm.same_eq]; have h9 := hinv.2; rw [List.take_of_length_le (by omega), List.take_of_length_le (by omega)] at h9; simp [h9, h1, hL]
        (try simp only [nrm, Int.reduceEq, Int.reduceNe, Int.reduceLT, Int.reduceLE] at h12); refine runs_skip ?_; refine seq_normal ?_; refine runs_seq ?_; refine runs_block ?_; refine runs_seq ?_; refine kp [9, 4, 3, 2] ?_
        obtain ⟨k', n', s', l', a', hget⟩ := trm_get (show j < args.length by omega); obtain ⟨k2', n2', s2', l2', a2', hget2⟩ := trm_get (show j < args2.length by omega)
        have hsz' := sizeT_get hget
        refine a_start ?_ (hm := by exact mixed); refine A1 0 rfl (fdb ti31 ⟨_, rfl, ?_⟩); refine A1 1 rfl (ldb ti29 ⟨_, rfl, ?_⟩); refine A1 2 rfl (mv ⟨_, rfl, ?_⟩); refine A1 3 rfl (ixs us29 te29 ⟨_, rfl, ?_⟩ (he := by exact (trm_at hget)))
        refine A1 4 rfl (ldc ti31 ⟨_, rfl, ?_⟩); refine A1 5 rfl (fdb ti31 ⟨_, rfl, ?_⟩); refine A1 6 rfl (ldb ti29 ⟨_, rfl, ?_⟩); refine A1 7 rfl (mv ⟨_, rfl, ?_⟩); refine A1 8 rfl (ixs us29 te29 ⟨_, rfl, ?_⟩ (he := by exact (trm_at hget2)))
        refine A1 9 rfl (ldc ti31 ⟨_, rfl, ?_⟩); refine A1 10 rfl (mv ⟨_, rfl, ?_⟩); refine A2 11 rfl (cv ca55 rfl rfl (ih k' n' s' l' a' k2' n2' s2' l2' a2' (by omega) (by omega)) (fid (fid (fir .nil))) ?_); refine A1 12 rfl (asg ⟨_, rfl, ?_⟩)
        refine a_end ?_; refine seq_normal ?_; refine kp [10, 9, 4, 3, 2] ?_; refine sr ?_; refine o1 (mv ?_); refine o1 (f_not ?_); refine nx ?_; refine cd (fun h15 => ?_) (fun h15 => ?_)
        · (try simp only [nrm, Int.reduceEq, Int.reduceNe, Int.reduceLT, Int.reduceLE] at h15)
          refine kp [] ?_; refine sr ?_; refine o1 (asg ?_); refine nx ?_; refine runs_ret ?_; refine inb_ret ?_; refine seq_ret ?_; refine seq_ret ?_; refine inb_ret ?_; refine seq_ret ?_; refine fin_ret ?_; refine fin_d1 rfl rfl ?_
          rw [Trm.same_eq]; rw [sameT_false hget hget2 h15]; simp
        (try simp only [nrm, Int.reduceEq, Int.reduceNe, Int.reduceLT, Int.reduceLE] at h15); refine runs_skip ?_; refine inb_normal ?_; refine seq_normal ?_; refine runs_region ?_; refine o1 (mv ?_); refine o1 (iad ?_); refine o1 (asg ?_)
        refine ops_nil ?_; refine seq_back ?_; refine back_i (j + 1) rfl ?_ ?_
        · exact ⟨⟨by omega, by rw [sameT_take hget hget2]; simp [hinv.2, h15]⟩, by omega⟩
        · refine mo ?_ (sly (sly (sly (sly slz))))
          repeat (first | exact boz | refine boc ?_)
theorem sameTerm_spec (k m : Int) (s : ByteArray) (ls : List Lvl) (args : List Trm) (k2 m2 : Int) (s2 : ByteArray) (ls2 : List Lvl) (args2 : List Trm) (hb : (Trm.mk k m s ls args).size ≤ 1099511627776) :
    TriD Tryz.prog gl 17 [(Trm.mk k m s ls args).d, (Trm.mk k2 m2 s2 ls2 args2).d] (· = .v (.bool (Trm.same (.mk k m s ls args) (.mk k2 m2 s2 ls2 args2)))) := by
  refine triD_of_runs Tryz.func17 rfl Tryz.ntmps17 (rs := [.tmp 4]) rfl rfl rfl ?_
  refine sr ?_; refine oc (T := fun _ => False) (bx ti31 ?_ (hl := by simp only [List.length_cons, List.length_nil, Nat.reduceAdd]; rfl))
  refine oc (T := fun _ => False) (bx ti31 ?_ (hl := by simp only [List.length_cons, List.length_nil, Nat.reduceAdd]; rfl)); refine o1 (asg ?_); refine nx ?_; refine sr ?_; refine o1 (ldb ti31 ?_); refine o1 (ldb ti31 ?_)
  refine oc (cv ca55 rfl rfl (alike_spec _ k m s ls args k2 m2 s2 ls2 args2 (Nat.le_refl _) hb) (fid (fid (fir .nil))) ?_); refine o1 (asg ?_); refine nx ?_; refine runs_ret ?_; refine fin_ret ?_; refine fin_d1 rfl rfl ?_
  rfl
end Go.Proofs.YtneaancanfpdhaaGreatDoor
namespace Go.Proofs.YtneaancanfpdhaaGreatDoor
open Go Go.Vd Go.RowKit
attribute [local irreducible] Runs OpsR OpR FloatR AnyR AnyO
variable {gl : Nat → List D}
theorem limit_spec (n : Int) (h0 : -9223372036854775808 ≤ n) (h1 : n ≤ 9223372036854775807) : TriD Tryz.prog gl 11 [.v (.int .i64 n)] (· = .v (.int .i64 (if n < 0 then (-(n + 1)) % 6 else n % 6))) := by
  refine triD_of_runs Tryz.func11 rfl Tryz.ntmps11 (rs := [.tmp 2]) rfl rfl rfl ?_
  refine sr ?_; refine o1 (asg ?_); refine nx ?_; refine runs_seq ?_; refine sr ?_; refine o1 (mv ?_); refine o1 (ilt ?_); refine nx ?_; refine cdf (fun h1 => ?_) (fun h1 => ?_)
  · (try simp only [nrm, Int.reduceEq, Int.reduceNe, Int.reduceLT, Int.reduceLE] at h1)
    refine runs_skip ?_; refine seq_normal ?_; refine sr ?_; refine o1 (mv ?_); refine o1 (f_rem ?_); refine o1 (asg ?_); refine nx ?_; refine runs_ret ?_; refine fin_ret ?_; refine fin_d1 rfl rfl ?_
    rw [if_neg (by omega)]
  (try simp only [nrm, Int.reduceEq, Int.reduceNe, Int.reduceLT, Int.reduceLE] at h1); refine runs_region ?_; refine o1 (mv ?_); refine o1 (iad ?_); refine o1 (f_neg64 ?_); refine o1 (asg ?_); refine nx ?_; refine kp [0] ?_; refine sr ?_
  refine o1 (mv ?_); refine o1 (f_rem ?_); refine o1 (asg ?_); refine nx ?_; refine runs_ret ?_; refine fin_ret ?_; refine fin_d1 rfl rfl ?_
  rw [if_pos (by omega)]
end Go.Proofs.YtneaancanfpdhaaGreatDoor
namespace Go.Proofs.YtneaancanfpdhaaGreatDoor
open Go Go.Vd Go.RowKit
attribute [local irreducible] Runs OpsR OpR FloatR AnyR AnyO
variable {g gl : Nat → List D}
mutual
theorem lift_shift {m fr : Int} : ∀ (t : Trm) (d : Int), mapT (liftF m fr) t d = mapT (liftF m 0) t (fr + d)
  | .mk k n s ls args, d => by
    rw [mapT, mapT, lift_shifts args _ d]
    simp only [liftF, Int.zero_add]
theorem lift_shifts {m fr : Int} : ∀ (l : List Trm) (b : Bool) (d : Int), mapTs (liftF m fr) b l d = mapTs (liftF m 0) b l (fr + d)
  | [], b, d => by simp [mapTs]
  | t :: r, b, d => by
    rw [mapTs, mapTs, lift_shift t, lift_shifts r b d]
    congr 2
    split <;> omega
end
mutual
theorem lvsub_size (ps : List ByteArray) (ls : List Lvl) (M : Nat) (hM : 1 ≤ M) (hl : ∀ l ∈ ls, l.size ≤ M) : ∀ l : Lvl, (l.subst ps ls).size ≤ l.size * M
  | .mk k s args => by
    have h := lvsubs_size ps ls M hM hl args
    simp only [Lvl.subst, Lvl.size]
    rw [Nat.add_mul, Nat.one_mul]
    split
    · split
      · rename_i i hi
        rw [List.getD_eq_getElem?_getD]
        cases hg : ls[i]? with
        | none =>
          have : sizes args ≤ sizes args * M := Nat.le_mul_of_pos_right _ hM
          simp [Lvl.size]; omega
        | some x => simp only [Option.getD_some]; have := hl x (List.mem_of_getElem? hg); omega
      · simp only [Lvl.size]
        have : sizes args ≤ sizes args * M := Nat.le_mul_of_pos_right _ hM
        omega
    · simp only [Lvl.size]; omega
theorem lvsubs_size (ps : List ByteArray) (ls : List Lvl) (M : Nat) (hM : 1 ≤ M) (hl : ∀ l ∈ ls, l.size ≤ M) : ∀ l : List Lvl, sizes (substL ps ls l) ≤ sizes l * M
  | [] => by simp [substL, sizes]
  | a :: r => by
    have h1 := lvsub_size ps ls M hM hl a
    have h2 := lvsubs_size ps ls M hM hl r
    simp only [substL, sizes, Nat.add_mul]; omega
end
theorem lvmap_size (ps : List ByteArray) (ls : List Lvl) (M : Nat) (hM : 1 ≤ M) (hl : ∀ l ∈ ls, l.size ≤ M) : ∀ l : List Lvl, sizes (l.map fun x => x.subst ps ls) ≤ sizes l * M
  | [] => by simp [sizes]
  | a :: r => by
    have h1 := lvsub_size ps ls M hM hl a
    have h2 := lvmap_size ps ls M hM hl r
    simp only [List.map_cons, sizes, Nat.add_mul]; omega
mutual
theorem subT_size (ps : List ByteArray) (ls : List Lvl) (M : Nat) (hM : 1 ≤ M) (hl : ∀ l ∈ ls, l.size ≤ M) : ∀ t : Trm, (subT ps ls t).size ≤ t.size * M
  | .mk k n s l args => by
    have h1 := lvmap_size ps ls M hM hl l
    have h2 := subTs_size ps ls M hM hl args
    simp only [subT, Trm.size, Nat.add_mul, Nat.one_mul]; omega
theorem subTs_size (ps : List ByteArray) (ls : List Lvl) (M : Nat) (hM : 1 ≤ M) (hl : ∀ l ∈ ls, l.size ≤ M) : ∀ l : List Trm, sizesT (subTs ps ls l) ≤ sizesT l * M
  | [] => by simp [subTs, sizesT]
  | t :: r => by
    have h1 := subT_size ps ls M hM hl t
    have h2 := subTs_size ps ls M hM hl r
    simp only [subTs, sizesT, Nat.add_mul]; omega
end
theorem sizesT_ap (l m : List Trm) : sizesT (l ++ m) = sizesT l + sizesT m := by
  induction l with
  | nil => simp [sizesT]
  | cons a r ih => simp [sizesT, ih]; omega
theorem spine_sizes : ∀ (n : Nat) (t : Trm), t.size ≤ n → (spineT t).1.size + sizesT (spineT t).2 ≤ t.size := by
  intro n
  induction n with
  | zero => intro t h; obtain ⟨k, m, s, ls, args, rfl⟩ := Trm.case t; simp [Trm.size] at h
  | succ n ih =>
    intro t h
    match t with
    | .mk k m s ls [f, a] =>
      simp only [Trm.size, sizesT] at h
      by_cases hk : k = 3
      · have h1 := ih f (by omega)
        rw [spineT, if_pos hk]
        simp only [sizesT_ap, sizesT, Trm.size]; omega
      · rw [spineT, if_neg hk]; simp [sizesT]
    | .mk k m s ls [] => simp [spineT, sizesT]
    | .mk k m s ls [a] => simp [spineT, sizesT]
    | .mk k m s ls (a :: b :: c :: r) => simp [spineT, sizesT]
theorem apply_size (f : Trm) (bs : List Trm) : (applyT f bs).size = f.size + sizesT bs + bs.length := by
  unfold applyT
  induction bs generalizing f with
  | nil => simp [sizesT]
  | cons a r ih => rw [List.foldl_cons, ih]; simp only [Trm.size, sizes, sizesT, List.length_cons]; omega
theorem lim5 (n : Int) : 0 ≤ (if n < 0 then (-(n + 1)) % 6 else n % 6) ∧ (if n < 0 then (-(n + 1)) % 6 else n % 6) ≤ 5 := by split <;> omega
/-- a term is what it is -/
theorem sameSelf_spec (t : Trm) (hb : t.size ≤ 1099511627776) : TriD Tryz.prog gl 17 [t.d, t.d] (· = .v (.bool true)) := by
  obtain ⟨k, m, s, ls, args, rfl⟩ := Trm.case t
  have h := sameTerm_spec (gl := gl) k m s ls args k m s ls args hb
  rw [Trm.same_self] at h
  exact h
end Go.Proofs.YtneaancanfpdhaaGreatDoor
namespace Go.Proofs.YtneaancanfpdhaaGreatDoor
open Go Go.Vd Go.RowKit
attribute [local irreducible] Runs OpsR OpR FloatR AnyR AnyO
variable {g gl : Nat → List D}
theorem moved_spec (h3g : g 3 = wordsD) (h7g : g (laysM246_ren.g 17) = p10D) (K : Int) (S T U : ByteArray) (A B : Int) (hA0 : i64 A) (hB0 : i64 B) : TriD Tryz.prog (glT g) 6 [opD K S T U A B] (· = .v (.bool true)) := by
  have qa := parseTerm_spec (g := g) S
  have qb := parseTerm_spec (g := g) T
  obtain ⟨oka, wta⟩ := parse_ok S
  obtain ⟨okb, wtb⟩ := parse_ok T
  have ga := parse_good (s := S)
  have gb := parse_good (s := T)
  rcases hA : parseT S with ⟨⟨ka, ma, sa, la, aa⟩, ca, pa⟩
  rcases hB : parseT T with ⟨⟨kb, mb, sb, lb, ab⟩, cb, pb⟩
  rw [hA] at qa oka wta ga
  rw [hB] at qb okb wtb gb
  simp only at qa oka wta ga qb okb wtb gb
  have za := size_wtT' (.mk ka ma sa la aa)
  have zb := size_wtT' (.mk kb mb sb lb ab)
  have qm := much_spec (gl := glT g) ka ma sa la aa kb mb sb lb ab (by omega) (by omega)
  have qn := limit_spec (gl := glT g) A hA0.1 hA0.2
  have qf := limit_spec (gl := glT g) B hB0.1 hB0.2
  unfold opD
  refine triD_of_runs Tryz.func6 rfl Tryz.ntmps6 (rs := [.tmp 2]) rfl rfl rfl ?_
  refine sr ?_; refine oc (T := fun _ => False) (bx ti25 ?_ (hl := by simp only [List.length_cons, List.length_nil, Nat.reduceAdd]; rfl)); refine o1 (asg ?_); refine nx ?_; refine sr ?_; refine o1 (fdb ti25 ?_); refine o1 (ldb ti9 ?_)
  refine oc (cv ca9 rfl rfl (qa) (fir .nil) ?_); refine o1 (mv ?_); refine o1 (ex2 ?_); refine o1 (ex2 ?_); refine oc (T := fun _ => False) (alc ti31 ?_ (hl := by simp only [List.length_cons, List.length_nil, Nat.reduceAdd]; rfl))
  refine oc (T := fun _ => False) (alc ti33 ?_ (hl := by simp only [List.length_cons, List.length_nil, Nat.reduceAdd]; rfl)); refine oc (sto ti31 ?_); refine oc (sto ti33 ?_); refine nx ?_; refine kp [4, 3, 1] ?_; refine sr ?_
  refine o1 (fdb ti25 ?_); refine o1 (ldb ti9 ?_); refine oc (cv ca9 rfl rfl (qb) (fir .nil) ?_); refine o1 (mv ?_); refine o1 (ex2 ?_); refine o1 (ex2 ?_)
  refine oc (T := fun _ => False) (alc ti31 ?_ (hl := by simp only [List.length_cons, List.length_nil, Nat.reduceAdd]; rfl))
  refine oc (T := fun _ => False) (alc ti33 ?_ (hl := by simp only [List.length_cons, List.length_nil, Nat.reduceAdd]; rfl)); refine oc (sto ti31 ?_); refine oc (sto ti33 ?_); refine nx ?_; refine runs_seq ?_; refine kp [6, 5, 4, 3, 1] ?_
  refine sr ?_; refine o1 (fdb ti33 ?_); refine o1 (ldb ti3 ?_); refine o1 (ine ?_); refine o1 (mv ?_)
  apply ops_or (yt := 48) (d := 45) 3 rfl rfl rfl (.none rfl) rfl rfl
  case h1 =>
    intro hb6 hK
    have hc := hb6; (try simp only [nrm, Int.reduceEq, Int.reduceNe, Int.reduceLT, Int.reduceLE] at hc)
    refine gye ?_ (hbw := by exact hb6); refine o1 (fdb ti33 ?_); refine gye ?_ (hbw := by exact hb6); refine o1 (ldb ti3 ?_); refine gye ?_ (hbw := by exact hb6); refine o1 (ine ?_); exact hK [_, _, _] rfl rfl
  case h2 =>
    intro hb6 hK; refine gno ?_ (hbw := by exact hb6); refine gno ?_ (hbw := by exact hb6); refine gno ?_ (hbw := by exact hb6); exact hK [_, _, _] rfl
  refine nx ?_; refine cd (fun h3 => ?_) (fun h3 => ?_)
  · (try simp only [nrm, Int.reduceEq, Int.reduceNe, Int.reduceLT, Int.reduceLE] at h3)
    refine kp [] ?_; refine sr ?_; refine o1 (asg ?_); refine nx ?_; refine runs_ret ?_; refine seq_ret ?_; refine fin_ret ?_; refine fin_d1 rfl rfl ?_
    first | rfl | simp
  (try simp only [nrm, Int.reduceEq, Int.reduceNe, Int.reduceLT, Int.reduceLE] at h3); refine runs_skip ?_; refine seq_normal ?_; refine kp [5, 3, 1] ?_; refine sr ?_; refine o1 (ldb ti31 ?_); refine o1 (ldb ti31 ?_)
  refine oc (T := fun _ => False) (op_call ca10 rfl rfl rfl rfl (qm) (fid (fid .nil)) (fun d hd => ?_)); obtain ⟨bm, rfl, hbm⟩ := hd; refine o1 (asg ?_); refine nx ?_; refine runs_seq ?_; refine sr ?_; refine o1 (mv ?_); refine nx ?_
  refine cd (fun h6 => ?_) (fun h6 => ?_)
  · (try simp only [nrm, Int.reduceEq, Int.reduceNe, Int.reduceLT, Int.reduceLE] at h6)
    refine kp [] ?_; refine sr ?_; refine o1 (asg ?_); refine nx ?_; refine runs_ret ?_; refine seq_ret ?_; refine fin_ret ?_; refine fin_d1 rfl rfl ?_
    first | rfl | simp
  (try simp only [nrm, Int.reduceEq, Int.reduceNe, Int.reduceLT, Int.reduceLE] at h6); refine runs_skip ?_; refine seq_normal ?_; refine runs_seq ?_; refine kp [5, 3, 1] ?_; obtain rfl : ca = 0 := (by omega); obtain rfl : cb = 0 := (by omega)
  have hgA := ga rfl
  have hgB := gb rfl
  have hsz := hbm h6
  have hn0 := lim5 A
  have hf0 := lim5 B
  generalize hn : (if A < 0 then (-(A + 1)) % 6 else A % 6) = nn at qn hn0
  generalize hf : (if B < 0 then (-(B + 1)) % 6 else B % 6) = ff at qf hf0
  -- lift
  have qL := lift_spec (gl := glT g) (B := 999999) (m0 := nn) (fr := ff) (by omega) (by omega) (by omega) ka ma sa la aa (okT_num oka) (by omega)
  have qRL := rlift_spec (gl := glT g) (n0 := nn) (by omega) _ ka ma sa la aa ff (Nat.le_refl _) hgA (by omega) (by omega)
  have eL : mapT (liftF nn 0) (.mk ka ma sa la aa) ff = liftT (.mk ka ma sa la aa) nn ff := (by rw [liftT_map, lift_shift (m := nn) (fr := ff), Int.add_zero])
  rw [eL] at qRL
  have wL := wtT_liftT (.mk ka ma sa la aa) nn ff
  obtain ⟨k1, m1, s1, l1, a1, hX1⟩ := Trm.case (liftT (.mk ka ma sa la aa) nn ff)
  rw [hX1] at qL qRL wL
  have z1 := size_wtT' (.mk k1 m1 s1 l1 a1)
  have sL := sameSelf_spec (gl := glT g) (.mk k1 m1 s1 l1 a1) (by omega)
  -- subst
  have qS := subst_spec (gl := glT g) (B := 999999) (by omega) kb mb sb lb ab (okT_num okb) (by omega) ka ma sa la aa (okT_num oka) (by omega)
  have qRS := rsubst_spec (gl := glT g) kb mb sb lb ab hgB (by omega) ka ma sa la aa hgA (by omega)
  have wS : wtT (substT (.mk ka ma sa la aa) (.mk kb mb sb lb ab)) ≤ wtT (.mk ka ma sa la aa) + (Trm.mk ka ma sa la aa).size * wtT (.mk kb mb sb lb ab) := wtT_subst _ _ _
  have wS2 : (Trm.mk ka ma sa la aa).size * wtT (.mk kb mb sb lb ab) ≤ 20000 * 2000020 := Nat.mul_le_mul (by omega) wtb
  obtain ⟨k2, m2, s2, l2, a2, hX2⟩ := Trm.case (substT (.mk ka ma sa la aa) (.mk kb mb sb lb ab))
  rw [hX2] at qS qRS wS
  have z2 := size_wtT' (.mk k2 m2 s2 l2 a2)
  have sS := sameSelf_spec (gl := glT g) (.mk k2 m2 s2 l2 a2) (by omega)
  -- closed, has
  have qC := closed_spec (gl := glT g) (n0 := nn) (by omega) ka ma sa la aa (by omega)
  have qRC := rclosed_spec (gl := glT g) _ ka ma sa la aa nn (Nat.le_refl _) hgA (by omega) (by omega)
  have eC : (!someT (openF 0) (.mk ka ma sa la aa) nn) = closedT (.mk ka ma sa la aa) nn := (by unfold closedT; rw [someT_shift (n := nn), Int.add_zero])
  rw [eC] at qRC
  generalize hcl : closedT (.mk ka ma sa la aa) nn = cl at qC qRC
  have qH := has_spec (gl := glT g) U ka ma sa la aa (by omega)
  have qRH := rhas_spec (gl := glT g) U _ ka ma sa la aa (Nat.le_refl _) (by omega)
  generalize hha : someT (hasF U) (.mk ka ma sa la aa) 0 = ha at qH qRH
  -- equal
  have qE := tequal_spec (gl := glT g) _ ka ma sa la aa kb mb sb lb ab (Nat.le_refl _) (by omega) (by omega) oka okb
  have hta := tpar_len (.mk ka ma sa la aa) []
  simp only [List.length_nil, Nat.zero_add] at hta
  have qP1 := tparams_spec (gl := glT g) _ ka ma sa la aa [] (Nat.le_refl _) (by simp only [List.length_nil, Nat.zero_add]; omega)
  have qP2 := tparams_spec (gl := glT g) _ kb mb sb lb ab (tpar (.mk ka ma sa la aa) []) (Nat.le_refl _) (by omega)
  have hstl := strs_len (tpar (.mk kb mb sb lb ab) (tpar (.mk ka ma sa la aa) []))
  have ova := allL_imp (fun l h => (show okV l from ⟨h.choose, h.choose_spec.1⟩)) (allL_ok oka)
  have ovb := allL_imp (fun l h => (show okV l from ⟨h.choose, h.choose_spec.1⟩)) (allL_ok okb)
  have inb := tpar_in (ah := tpar (.mk ka ma sa la aa) []) ovb
  have ina := inL_mono (fun p hp => tpar_mono ovb hp) (tpar_in (ah := []) ova)
  have qRE := fun hL => requal_spec (gl := glT g) (tpar (.mk kb mb sb lb ab) (tpar (.mk ka ma sa la aa) [])) hL ka ma sa la aa kb mb sb lb ab
  replace qRE := fun hL => qRE hL (by omega) (by omega) oka okb ina inb
  generalize heq : eqT eqLv (.mk ka ma sa la aa) (.mk kb mb sb lb ab) = ee at qE qRE
  -- levels
  have qU := parseLevel_spec (gl := glT g) U
  obtain ⟨x, hx, fx, wx⟩ := parseR_lev U
  have sx := x.size_toLvl
  have wsx := x.size_le_weight
  rw [hx] at qU
  obtain ⟨ku, nu, au, eu⟩ := Lvl.case x.toLvl
  rw [eu] at qU sx
  have qV := plevels_spec (gl := glT g) [⟨#[117]⟩] [.mk ku nu au] (by decide) (by simp) (by simp) _ ka ma sa la aa (Nat.le_refl _) (by omega)
  have qRV := rlevels_spec (gl := glT g) [⟨#[117]⟩] [.mk ku nu au] (by simp) (by simp) _ ka ma sa la aa (Nat.le_refl _) (by omega)
  have zV := subT_size [⟨#[117]⟩] [.mk ku nu au] 400010 (by decide) (fun l hl => by simp only [List.mem_singleton] at hl; subst hl; omega) (.mk ka ma sa la aa)
  have zV2 : (Trm.mk ka ma sa la aa).size * 400010 ≤ 20000 * 400010 := Nat.mul_le_mul_right _ hsz
  obtain ⟨k3, m3, s3, l3, a3, hX3⟩ := Trm.case (subT [⟨#[117]⟩] [.mk ku nu au] (.mk ka ma sa la aa))
  rw [hX3] at qV qRV zV
  have sV := sameSelf_spec (gl := glT g) (.mk k3 m3 s3 l3 a3) (by omega)
  -- heads
  have gsp := good_spine _ _ (Nat.le_refl _) hgA
  have qsp := spine_spec (gl := glT g) ka ma sa la aa gsp.1 (by omega)
  have qRsp := rspine_spec (gl := glT g) ka ma sa la aa gsp.1 (by omega)
  have hsl := spine_len _ (.mk ka ma sa la aa) (Nat.le_refl _)
  have zsp := spine_sizes _ (.mk ka ma sa la aa) (Nat.le_refl _)
  rcases hSp : spineT (.mk ka ma sa la aa) with ⟨⟨kh, mh, sh, lh, ah⟩, bs⟩
  rw [hSp] at qsp qRsp hsl zsp
  simp only at qsp qRsp hsl zsp
  have sH := sameSelf_spec (gl := glT g) (.mk kh mh sh lh ah) (by omega)
  have hbl := trms_len bs
  have qap := apply_spec (gl := glT g) kb mb sb lb ab bs (by omega)
  have qRap := rapply_spec (gl := glT g) kb mb sb lb ab bs (by omega)
  have zap := apply_size (.mk kb mb sb lb ab) bs
  obtain ⟨k4, m4, s4, l4, a4, hX4⟩ := Trm.case (applyT (.mk kb mb sb lb ab) bs)
  rw [hX4] at qap qRap zap
  have sA := sameSelf_spec (gl := glT g) (.mk k4 m4 s4 l4 a4) (by omega)
  -- print
  have pr := tprint_spec (g := gl0 g) h3g h7g ka ma sa la aa (by omega) oka
  have rpr := printTerm_spec (g := g) _ ka ma sa la aa (Nat.le_refl _) (by omega) oka
  refine runs_region ?_; refine o1 (fdb ti25 ?_); refine o1 (ldb ti3 ?_); refine oc (cv ca11 rfl rfl (qn) (fir .nil) ?_); refine o1 (asg ?_); refine nx ?_; refine sr ?_; refine o1 (fdb ti25 ?_); refine o1 (ldb ti3 ?_)
  refine oc (cv ca11 rfl rfl (qf) (fir .nil) ?_); refine o1 (asg ?_); refine nx ?_; refine kp [9, 8, 5, 3, 1] ?_; refine sr ?_; refine o1 (ldb ti31 ?_); refine o1 (mv ?_); refine o1 (mv ?_)
  refine oc (cv ca12 rfl rfl (qL) (fid (fir (fir .nil))) ?_); refine oc (T := fun _ => False) (alc ti31 ?_ (hl := by simp only [List.length_cons, List.length_nil, Nat.reduceAdd]; rfl)); refine oc (sto ti31 ?_); refine nx ?_
  refine kp [10, 9, 8, 5, 3, 1] ?_; refine sr ?_; refine o1 (ldb ti31 ?_); refine o1 (ldb ti31 ?_); refine oc (cv ca13 rfl rfl (qS) (fid (fid .nil)) ?_)
  refine oc (T := fun _ => False) (alc ti31 ?_ (hl := by simp only [List.length_cons, List.length_nil, Nat.reduceAdd]; rfl)); refine oc (sto ti31 ?_); refine nx ?_; refine sr ?_; refine o1 (ldb ti31 ?_); refine o1 (mv ?_)
  refine oc (cv ca14 rfl rfl (qC) (fid (fir .nil)) ?_); refine o1 (asg ?_); refine nx ?_; refine kp [12, 11, 10, 9, 8, 5, 3, 1] ?_; refine sr ?_; refine o1 (ldb ti31 ?_); refine o1 (fdb ti25 ?_); refine o1 (ldb ti9 ?_)
  refine oc (cv ca15 rfl rfl (qH) (fid (fir .nil)) ?_); refine o1 (asg ?_); refine nx ?_; refine kp [13, 12, 11, 10, 9, 8, 5, 3, 1] ?_; refine sr ?_; refine o1 (ldb ti31 ?_); refine o1 (ldb ti31 ?_)
  refine oc (cv ca16 rfl rfl (qE) (fid (fid .nil)) ?_); refine o1 (asg ?_); refine nx ?_; refine runs_seq ?_; refine a_start ?_ (hm := by exact mixed); refine A1 0 rfl (ldb ti31 ⟨_, rfl, ?_⟩); refine A1 1 rfl (ldb ti31 ⟨_, rfl, ?_⟩)
  refine A1 2 rfl (mv ⟨_, rfl, ?_⟩); refine A1 3 rfl (mv ⟨_, rfl, ?_⟩); refine A2 4 rfl (cv ca18 rfl rfl (qRL) (fid (fir (fir .nil))) ?_); refine A2 5 rfl (cv ca17 rfl rfl (sL) (fid (fir .nil)) ?_); refine A1 6 rfl (asg ⟨_, rfl, ?_⟩)
  refine a_end ?_; refine seq_normal ?_; refine runs_seq ?_; refine kp [15, 14, 13, 12, 11, 8, 5, 3, 1] ?_; refine a_start ?_ (hm := by exact mixed); refine A1 0 rfl (ldb ti31 ⟨_, rfl, ?_⟩); refine A1 1 rfl (ldb ti31 ⟨_, rfl, ?_⟩)
  refine A1 2 rfl (ldb ti31 ⟨_, rfl, ?_⟩); refine A2 3 rfl (cv ca19 rfl rfl (qRS) (fid (fid .nil)) ?_); refine A2 4 rfl (cv ca17 rfl rfl (sS) (fid (fir .nil)) ?_); refine A1 5 rfl (asg ⟨_, rfl, ?_⟩); refine a_end ?_; refine seq_normal ?_
  refine kp [16, 15, 14, 13, 12, 8, 5, 3, 1] ?_; refine sr ?_; refine o1 (mv ?_); refine o1 (ldb ti31 ?_); refine o1 (mv ?_); refine oc (cv ca20 rfl rfl (qRC) (fid (fir .nil)) ?_); refine o1 (fl_bqeql ub4 rfl rfl rfl ?_); refine o1 (mv ?_)
  apply ops_and (yt := 99) (d := 93) 6 rfl rfl rfl (.none rfl) rfl rfl
  case h1 =>
    intro hb11 hK
    have hc := hb11; (try simp only [nrm, Int.reduceEq, Int.reduceNe, Int.reduceLT, Int.reduceLE] at hc)
    refine gye ?_ (hbw := by exact hb11); refine o1 (mv ?_); refine gye ?_ (hbw := by exact hb11); refine o1 (ldb ti31 ?_); refine gye ?_ (hbw := by exact hb11); refine o1 (fdb ti25 ?_); refine gye ?_ (hbw := by exact hb11)
    refine o1 (ldb ti9 ?_); refine gye ?_ (hbw := by exact hb11); refine oc (cv ca21 rfl rfl (qRH) (fid (fir .nil)) ?_); refine gye ?_ (hbw := by exact hb11); refine o1 (fl_bqeql ub4 rfl rfl rfl ?_); exact hK [_, _, _, _, _, _] rfl rfl
  case h2 =>
    intro hb11 hK; refine gno ?_ (hbw := by exact hb11); refine gno ?_ (hbw := by exact hb11); refine gno ?_ (hbw := by exact hb11); refine gno ?_ (hbw := by exact hb11); refine gno ?_ (hbw := by exact hb11); refine gno ?_ (hbw := by exact hb11)
    exact hK [_, _, _, _, _, _] rfl
  refine o1 (asg ?_); refine nx ?_; refine runs_seq ?_; refine runs_seq ?_; refine kp [17, 16, 15, 14, 5, 3, 1] ?_; refine runs_nilrow 9 1 rfl ?_; refine a_start ?_ (hm := by exact mixed); refine A1 0 rfl (ldb ti31 ⟨_, rfl, ?_⟩)
  refine A1 1 rfl (ldb ti31 ⟨_, rfl, ?_⟩); refine A2 2 rfl (ck ca22 rfl rfl (qP1) [7] rfl (bon .nil) (fid (.cons (.nil rfl) .nil)) ?_); refine A2 3 rfl (ck ca22 rfl rfl (qP2) [7] rfl (bor .nil) (fid (fir .nil)) ?_)
  refine A1 4 rfl (le2 us42 ⟨_, rfl, ?_⟩); refine A1 5 rfl (ile ⟨_, rfl, ?_⟩); refine a_end ?_; refine seq_normal ?_; refine kp [106, 17, 16, 15, 14, 5, 3, 1] ?_
  apply runs_cut_c (ι := Unit) (fun _ => [(17, .d (.v (.bool true)))]) [16, 15, 5, 3, 1] (fun _ => True)
  case hk => exact rfl
  case h1 =>
    refine cdf (fun h18 => ?_) (fun h18 => ?_)
    · (try simp only [nrm, Int.reduceEq, Int.reduceNe, Int.reduceLT, Int.reduceLE] at h18)
      refine runs_skip ?_; refine seq_back ?_; refine back_i (()) rfl ?_ ?_
      · trivial
      · refine mo ?_ (slx rfl (by exact Fit.of_eq (by first | rfl | (simp; rfl))) (sly (sly (sly (sly (sly slz))))))
        repeat (first | exact boz | refine boc ?_ | refine bor ?_)
    (try simp only [nrm, Int.reduceEq, Int.reduceNe, Int.reduceLT, Int.reduceLE] at h18); refine runs_region ?_; refine o1 (mv ?_); refine o1 (mv ?_)
    apply ops_and (yt := 113) (d := 108) 5 rfl rfl rfl (.none rfl) rfl rfl
    case h1 =>
      intro hb3 hK
      have hc := hb3; (try simp only [nrm, Int.reduceEq, Int.reduceNe, Int.reduceLT, Int.reduceLE] at hc)
      refine gye ?_ (hbw := by exact hb3); refine o1 (mv ?_); refine gye ?_ (hbw := by exact hb3); refine o1 (ldb ti31 ?_); refine gye ?_ (hbw := by exact hb3); refine o1 (ldb ti31 ?_); refine gye ?_ (hbw := by exact hb3)
      refine oc (cv ca23 rfl rfl (qRE (by omega)) (fid (fid .nil)) ?_); refine gye ?_ (hbw := by exact hb3); refine o1 (fl_bqeql ub4 rfl rfl rfl ?_); exact hK [_, _, _, _, _] rfl rfl
    case h2 =>
      intro hb3 hK; refine gno ?_ (hbw := by exact hb3); refine gno ?_ (hbw := by exact hb3); refine gno ?_ (hbw := by exact hb3); refine gno ?_ (hbw := by exact hb3); refine gno ?_ (hbw := by exact hb3); exact hK [_, _, _, _, _] rfl
    refine o1 (asg ?_); refine ops_nil ?_; refine seq_back ?_; refine back_i (()) rfl ?_ ?_
    · trivial
    · refine mo ?_ (slx rfl (by exact Fit.of_eq (by first | rfl | (simp; rfl))) (sly (sly (sly (sly (sly slz))))))
      repeat (first | exact boz | refine boc ?_ | refine bor ?_)
  case h2 =>
    rintro _ hcut
    try dsimp only at hcut
    refine kp [17, 16, 15, 5, 3, 1] ?_; refine sr ?_; refine o1 (fdb ti25 ?_); refine o1 (ldb ti9 ?_); refine oc (cv ca24 rfl rfl (qU) (fir .nil) ?_); refine o1 (mv ?_); refine o1 (ex2 ?_); refine o1 (ex2 ?_)
    refine oc (T := fun _ => False) (alc ti45 ?_ (hl := by simp only [List.length_cons, List.length_nil, Nat.reduceAdd]; rfl))
    refine oc (T := fun _ => False) (alc ti33 ?_ (hl := by simp only [List.length_cons, List.length_nil, Nat.reduceAdd]; rfl)); refine oc (sto ti45 ?_); refine oc (sto ti33 ?_); refine nx ?_; refine runs_seq ?_
    refine kp [19, 18, 17, 16, 15, 5, 3] ?_; refine sr ?_; refine o1 (fdb ti33 ?_); refine o1 (ldb ti3 ?_); refine o1 (ieq ?_); refine nx ?_; refine kp [123, 18, 17, 16, 15, 5, 3] ?_
    apply runs_cut_c (ι := Unit) (fun _ => [(17, .d (.v (.bool true)))]) [16, 15, 5, 3] (fun _ => True)
    case hk => exact rfl
    case h1 =>
      refine cdf (fun h21 => ?_) (fun h21 => ?_)
      · (try simp only [nrm, Int.reduceEq, Int.reduceNe, Int.reduceLT, Int.reduceLE] at h21)
        refine runs_skip ?_; refine seq_back ?_; refine back_i (()) rfl ?_ ?_
        · trivial
        · refine mo ?_ (slx rfl (by exact Fit.of_eq (by first | rfl | (simp; rfl))) (sly (sly (sly (sly slz)))))
          repeat (first | exact boz | refine boc ?_ | refine bor ?_)
      (try simp only [nrm, Int.reduceEq, Int.reduceNe, Int.reduceLT, Int.reduceLE] at h21); refine sr ?_; refine o1 (ldb ti31 ?_)
      refine oc (T := fun _ => False) (op_lit sl42 [.const _] ti9 rfl rfl rfl rfl rfl rfl rfl (by decide) (by decide) (by decide) (by simp only [List.length_cons, List.length_nil, Nat.reduceAdd]; rfl) rfl ?_); refine o1 (ldb ti45 ?_)
      refine oc (T := fun _ => False) (op_lit sl28 [.tmp 126] ti45 rfl rfl rfl rfl rfl rfl rfl (by decide) (by decide) (by decide) (by simp only [List.length_cons, List.length_nil, Nat.reduceAdd]; rfl) rfl ?_)
      refine oc (cv ca25 rfl rfl (qV) (fid (fid (fid .nil))) ?_); refine oc (T := fun _ => False) (alc ti31 ?_ (hl := by simp only [List.length_cons, List.length_nil, Nat.reduceAdd]; rfl)); refine oc (sto ti31 ?_); refine nx ?_
      refine kp [20, 18, 17, 16, 15, 5, 3] ?_; refine a_start ?_ (hm := by exact mixed); refine A1 0 rfl (mv ⟨_, rfl, ?_⟩); refine A1 1 rfl (mv ⟨_, rfl, ?_⟩); refine aspf 130 (fun hc => ?_) (fun hc => ?_)
      · simp only [nrm, Int.reduceEq, Int.reduceNe, Int.reduceLT, Int.reduceLE] at hc
      (try simp only [nrm, Int.reduceEq, Int.reduceNe, Int.reduceLT, Int.reduceLE] at hc); refine A6 2 rfl (ldb ti31 ⟨_, rfl, ?_⟩); refine A6 3 rfl (ldb ti31 ⟨_, rfl, ?_⟩); refine A6 5 rfl (ldb ti45 ⟨_, rfl, ?_⟩)
      refine any_many (rs := [4, 6]) (by kernel_rfl) rfl ⟨?_, ?_, trivial⟩
      · skip
        refine A5 (T := fun _ => False) 4 rfl (op_lit sl42 [.const _] ti9 rfl rfl rfl rfl rfl rfl rfl (by decide) (by decide) (by decide) (by simp only [List.length_cons, List.length_nil, Nat.reduceAdd]; rfl) rfl ?_)
        refine A3 (T := fun _ => False) 6 rfl (op_lit sl28 [.tmp 134] ti45 rfl rfl rfl rfl rfl rfl rfl (by decide) (by decide) (by decide) (by simp only [List.length_cons, List.length_nil, Nat.reduceAdd]; rfl) rfl ?_)
        refine A3 7 rfl (cv ca26 rfl rfl (qRV) (fid (fid (fid .nil))) ?_); refine A3 8 rfl (cv ca17 rfl rfl (sV) (fid (fir .nil)) ?_); refine A1 9 rfl (f_pick_t ⟨_, rfl, ?_⟩); refine A1 10 rfl (asg ⟨_, rfl, ?_⟩); refine a_end ?_; refine seq_back ?_
        refine back_i (()) rfl ?_ ?_
        · trivial
        · refine mo ?_ (slx rfl (by exact Fit.of_eq (by first | rfl | (simp; rfl))) (sly (sly (sly (sly slz)))))
          repeat (first | exact boz | refine boc ?_ | refine bor ?_)
      · skip
        refine A5 (T := fun _ => False) 6 rfl (op_lit sl28 [.tmp 134] ti45 rfl rfl rfl rfl rfl rfl rfl (by decide) (by decide) (by decide) (by simp only [List.length_cons, List.length_nil, Nat.reduceAdd]; rfl) rfl ?_)
        refine A3 (T := fun _ => False) 4 rfl (op_lit sl42 [.const _] ti9 rfl rfl rfl rfl rfl rfl rfl (by decide) (by decide) (by decide) (by simp only [List.length_cons, List.length_nil, Nat.reduceAdd]; rfl) rfl ?_)
        refine A3 7 rfl (cv ca26 rfl rfl (qRV) (fid (fid (fid .nil))) ?_); refine A3 8 rfl (cv ca17 rfl rfl (sV) (fid (fir .nil)) ?_); refine A1 9 rfl (f_pick_t ⟨_, rfl, ?_⟩); refine A1 10 rfl (asg ⟨_, rfl, ?_⟩); refine a_end ?_; refine seq_back ?_
        refine back_i (()) rfl ?_ ?_
        · trivial
        · refine mo ?_ (slx rfl (by exact Fit.of_eq (by first | rfl | (simp; rfl))) (sly (sly (sly (sly slz)))))
          repeat (first | exact boz | refine boc ?_ | refine bor ?_)
    case h2 =>
      rintro _ hcut
      try dsimp only at hcut
      refine kp [17, 16, 15, 5, 3] ?_; refine sr ?_; refine o1 (ldb ti31 ?_); refine oc (cv ca27 rfl rfl (qsp) (fid .nil) ?_); refine o1 (mv ?_); refine o1 (ex2 ?_); refine o1 (ex2 ?_)
      refine oc (T := fun _ => False) (alc ti31 ?_ (hl := by simp only [List.length_cons, List.length_nil, Nat.reduceAdd]; rfl)); refine oc (sto ti31 ?_); refine o1 (asg ?_); refine nx ?_; refine kp [22, 21, 17, 16, 15, 5, 3] ?_; refine sr ?_
      refine o1 (ldb ti31 ?_); refine oc (cv ca28 rfl rfl (qRsp) (fid .nil) ?_); refine o1 (mv ?_); refine o1 (ex2 ?_); refine o1 (ex2 ?_)
      refine oc (T := fun _ => False) (alc ti31 ?_ (hl := by simp only [List.length_cons, List.length_nil, Nat.reduceAdd]; rfl)); refine oc (sto ti31 ?_); refine o1 (asg ?_); refine nx ?_; refine kp [24, 23, 22, 21, 17, 16, 15, 5, 3] ?_
      refine sr ?_; refine o1 (ldb ti31 ?_); refine o1 (ldb ti31 ?_); refine oc (cv ca17 rfl rfl (sH) (fid (fid .nil)) ?_); refine o1 (mv ?_)
      apply ops_and (yt := 157) (d := 152) 5 rfl rfl rfl (.none rfl) rfl rfl
      case h1 =>
        intro hb7 hK
        have hc := hb7; (try simp only [nrm, Int.reduceEq, Int.reduceNe, Int.reduceLT, Int.reduceLE] at hc)
        refine gye ?_ (hbw := by exact hb7); refine o1 (mv ?_); refine gye ?_ (hbw := by exact hb7); refine o1 (le1 us29 ?_); refine gye ?_ (hbw := by exact hb7); refine o1 (mv ?_); refine gye ?_ (hbw := by exact hb7); refine o1 (le1 us29 ?_)
        refine gye ?_ (hbw := by exact hb7); refine o1 (ieq ?_); exact hK [_, _, _, _, _] rfl rfl
      case h2 =>
        intro hb7 hK; refine gno ?_ (hbw := by exact hb7); refine gno ?_ (hbw := by exact hb7); refine gno ?_ (hbw := by exact hb7); refine gno ?_ (hbw := by exact hb7); refine gno ?_ (hbw := by exact hb7); exact hK [_, _, _, _, _] rfl
      refine o1 (asg ?_); refine nx ?_; refine runs_seq ?_; refine kp [25, 24, 22, 17, 16, 15, 5, 3] ?_; refine sr ?_; refine o1 (asg ?_); refine nx ?_; refine runs_block ?_
      apply runs_loop_c (ι := Nat) (fun i => [(26, int i), (25, .d (.v (.bool true)))]) [24, 22, 17, 16, 15, 5, 3] (fun i => i ≤ bs.length) (fun i => bs.length - i) (0)
      case hk => exact rfl
      case hI =>
        exact Nat.zero_le _
      case hm =>
        refine mo ?_ (sly (slx rfl (by exact Fit.of_eq (by first | rfl | (simp; rfl))) (sly (sly (sly (sly (sly (sly (sly slz)))))))))
        repeat (first | exact boz | refine boc ?_ | refine bor ?_)
      case h =>
        rintro i hinv
        try dsimp only at hinv
        refine kp [26, 25, 24, 22, 17, 16, 15, 5, 3] ?_; refine runs_seq ?_; refine sr ?_; refine o1 (mv ?_); refine o1 (mv ?_); refine o1 (le1 us29 ?_); refine o1 (ilt ?_); refine o1 (mv ?_)
        apply ops_and (yt := 164) (d := 163) 1 rfl rfl rfl (.none rfl) rfl rfl
        case h1 =>
          intro hb9 hK
          have hc := hb9; (try simp only [nrm, Int.reduceEq, Int.reduceNe, Int.reduceLT, Int.reduceLE] at hc)
          refine gye ?_ (hbw := by exact hb9); refine o1 (mv ?_); exact hK [_] rfl rfl
        case h2 =>
          intro hb9 hK; refine gno ?_ (hbw := by exact hb9); exact hK [_] rfl
        refine nx ?_; refine cd (fun h28 => ?_) (fun h28 => ?_)
        · (try simp only [nrm, Int.reduceEq, Int.reduceNe, Int.reduceLT, Int.reduceLE] at h28)
          refine runs_skip ?_; refine seq_normal ?_; refine runs_seq ?_; refine runs_block ?_; refine kp [26, 24, 22, 17, 16, 15, 5, 3] ?_; obtain ⟨k5, m5, s5, l5, a5, hget⟩ := trm_get (show i < bs.length by omega)
          have hg5 := sizeT_get hget
          have s5' := sameSelf_spec (gl := glT g) (.mk k5 m5 s5 l5 a5) (by omega)
          refine a_start ?_ (hm := by exact mixed); refine A1 0 rfl (mv ⟨_, rfl, ?_⟩); refine A1 1 rfl (mv ⟨_, rfl, ?_⟩); refine A1 2 rfl (ixs us29 te29 ⟨_, rfl, ?_⟩ (he := by exact (trm_at hget))); refine A1 3 rfl (ldc ti31 ⟨_, rfl, ?_⟩)
          refine A1 4 rfl (mv ⟨_, rfl, ?_⟩); refine A1 5 rfl (mv ⟨_, rfl, ?_⟩); refine A1 6 rfl (ixs us29 te29 ⟨_, rfl, ?_⟩ (he := by exact (trm_at hget))); refine A1 7 rfl (ldc ti31 ⟨_, rfl, ?_⟩)
          refine A2 8 rfl (cv ca17 rfl rfl (s5') (fid (fid .nil)) ?_); refine A1 9 rfl (asg ⟨_, rfl, ?_⟩); refine a_end ?_; refine inb_normal ?_; refine seq_normal ?_; refine kp [25, 26, 24, 22, 17, 16, 15, 5, 3] ?_; refine runs_region ?_
          refine o1 (mv ?_); refine o1 (iad ?_); refine o1 (asg ?_); refine ops_nil ?_; refine seq_back ?_; refine back_i (i + 1) rfl ?_ ?_
          · exact ⟨by omega, by omega⟩
          · refine mo ?_ (sly (sly (sly (sly (sly (sly (sly (sly (sly slz)))))))))
            repeat (first | exact boz | refine boc ?_ | refine bor ?_)
        (try simp only [nrm, Int.reduceEq, Int.reduceNe, Int.reduceLT, Int.reduceLE] at h28); refine runs_exit ?_; refine seq_exit ?_; refine seq_exit ?_; refine inb_exit ?_; refine seq_normal ?_; refine kp [25, 24, 17, 16, 15, 5, 3] ?_
        refine sr ?_; refine o1 (ldb ti31 ?_); refine o1 (mv ?_); refine oc (cv ca29 rfl rfl (qap) (fid (fir .nil)) ?_); refine oc (T := fun _ => False) (alc ti31 ?_ (hl := by simp only [List.length_cons, List.length_nil, Nat.reduceAdd]; rfl))
        refine oc (sto ti31 ?_); refine nx ?_; refine runs_seq ?_; refine a_start ?_ (hm := by exact mixed); refine A1 0 rfl (ldb ti31 ⟨_, rfl, ?_⟩); refine A1 1 rfl (ldb ti31 ⟨_, rfl, ?_⟩); refine A1 2 rfl (mv ⟨_, rfl, ?_⟩)
        refine A2 3 rfl (cv ca30 rfl rfl (qRap) (fid (fir .nil)) ?_); refine A2 4 rfl (cv ca17 rfl rfl (sA) (fid (fir .nil)) ?_); refine A1 5 rfl (asg ⟨_, rfl, ?_⟩); refine a_end ?_; refine seq_normal ?_; refine kp [28, 25, 17, 16, 15, 3] ?_
        refine sr ?_; refine o1 (ldb ti31 ?_); refine oc (cv ca31 rfl rfl (pr) (fid .nil) ?_); refine o1 (asg ?_); refine nx ?_; refine sr ?_; refine o1 (mv ?_); refine o1 (mv ?_)
        apply ops_and (yt := 189) (d := 188) 1 rfl rfl rfl (.none rfl) rfl rfl
        case h1 =>
          intro hb3 hK
          have hc := hb3; (try simp only [nrm, Int.reduceEq, Int.reduceNe, Int.reduceLT, Int.reduceLE] at hc)
          refine gye ?_ (hbw := by exact hb3); refine o1 (mv ?_); exact hK [_] rfl rfl
        case h2 =>
          intro hb3 hK; refine gno ?_ (hbw := by exact hb3); exact hK [_] rfl
        refine o1 (mv ?_)
        apply ops_and (yt := 192) (d := 191) 1 rfl rfl rfl (.none rfl) rfl rfl
        case h1 =>
          intro hb9 hK
          have hc := hb9; (try simp only [nrm, Int.reduceEq, Int.reduceNe, Int.reduceLT, Int.reduceLE] at hc)
          refine gye ?_ (hbw := by exact hb9); refine o1 (mv ?_); exact hK [_] rfl rfl
        case h2 =>
          intro hb9 hK; refine gno ?_ (hbw := by exact hb9); exact hK [_] rfl
        refine o1 (mv ?_)
        apply ops_and (yt := 195) (d := 194) 1 rfl rfl rfl (.none rfl) rfl rfl
        case h1 =>
          intro hb15 hK
          have hc := hb15; (try simp only [nrm, Int.reduceEq, Int.reduceNe, Int.reduceLT, Int.reduceLE] at hc)
          refine gye ?_ (hbw := by exact hb15); refine o1 (mv ?_); exact hK [_] rfl rfl
        case h2 =>
          intro hb15 hK; refine gno ?_ (hbw := by exact hb15); exact hK [_] rfl
        refine o1 (mv ?_)
        apply ops_and (yt := 198) (d := 197) 1 rfl rfl rfl (.none rfl) rfl rfl
        case h1 =>
          intro hb21 hK
          have hc := hb21; (try simp only [nrm, Int.reduceEq, Int.reduceNe, Int.reduceLT, Int.reduceLE] at hc)
          refine gye ?_ (hbw := by exact hb21); refine o1 (mv ?_); exact hK [_] rfl rfl
        case h2 =>
          intro hb21 hK; refine gno ?_ (hbw := by exact hb21); exact hK [_] rfl
        refine o1 (mv ?_)
        apply ops_and (yt := 204) (d := 200) 4 rfl rfl rfl (.none rfl) rfl rfl
        case h1 =>
          intro hb27 hK
          have hc := hb27; (try simp only [nrm, Int.reduceEq, Int.reduceNe, Int.reduceLT, Int.reduceLE] at hc)
          refine gye ?_ (hbw := by exact hb27); refine o1 (mv ?_); refine gye ?_ (hbw := by exact hb27); refine o1 (ldb ti31 ?_); refine gye ?_ (hbw := by exact hb27); refine oc (cv ca32 rfl rfl (rpr) (fid .nil) ?_)
          refine gye ?_ (hbw := by exact hb27); refine o1 (seq1 ?_); exact hK [_, _, _, _] rfl rfl
        case h2 =>
          intro hb27 hK; refine gno ?_ (hbw := by exact hb27); refine gno ?_ (hbw := by exact hb27); refine gno ?_ (hbw := by exact hb27); refine gno ?_ (hbw := by exact hb27); exact hK [_, _, _, _] rfl
        refine o1 (asg ?_); refine nx ?_; refine runs_ret ?_; refine fin_ret ?_; refine fin_d1 rfl rfl ?_
        first | rfl | simp
end Go.Proofs.YtneaancanfpdhaaGreatDoor
namespace Go.Proofs.YtneaancanfpdhaaGreatDoor
open Go Go.Vd Go.RowKit
attribute [local irreducible] Runs OpsR OpR FloatR AnyR AnyO
variable {g gl : Nat → List D}
def tmA : ByteArray := ⟨#[40, 97, 112, 112, 32, 35, 48, 32, 40, 115, 111, 114, 116, 32, 117, 41, 41]⟩
theorem termMoves_spec (h3g : g 3 = wordsD) (h7g : g (laysM246_ren.g 17) = p10D) (l : List Step) (hl : ∀ o ∈ l, o.okInts) : TriD Tryz.prog (glT g) 3 [.sl 6 (steps l)] (· = .v (.bool true)) := by
  have hlen := steps_len l
  have q1 := moved_spec (g := g) h3g h7g 0 tmA ⟨#[35, 48]⟩ ⟨#[117]⟩ 1 0 ⟨by decide, by decide⟩ ⟨by decide, by decide⟩
  unfold tmA opD at q1
  refine triD_of_runs Tryz.func3 rfl Tryz.ntmps3 (rs := [.tmp 2]) rfl rfl rfl ?_
  refine sr ?_; refine o1 (asg ?_); refine nx ?_; refine sr ?_; refine o1 (bld ti25 ?_); refine oc (cv ca6 rfl rfl (q1) (fid .nil) ?_); refine o1 (asg ?_); refine nx ?_; refine runs_seq ?_; refine sr ?_; refine o1 (mv ?_); refine o1 (f_not ?_)
  refine nx ?_; refine cd (fun h2 => ?_) (fun h2 => ?_)
  · simp only [nrm, Int.reduceEq, Int.reduceNe, Int.reduceLT, Int.reduceLE] at h2
  (try simp only [nrm, Int.reduceEq, Int.reduceNe, Int.reduceLT, Int.reduceLE] at h2); refine runs_skip ?_; refine seq_normal ?_; refine runs_seq ?_; refine kp [0] ?_; refine sr ?_; refine o1 (asg ?_); refine nx ?_; refine runs_block ?_
  apply runs_loop_c (ι := Nat) (fun i => [(4, int i)]) [0] (fun i => i ≤ l.length ∧ i ≤ 1152921504606846976) (fun i => l.length - i) (0)
  case hk => exact rfl
  case hI =>
    exact ⟨Nat.zero_le _, by omega⟩
  case hm =>
    refine mo ?_ (sly (sly slz)); exact boz
  case h =>
    rintro i hinv
    try dsimp only at hinv
    refine kp [4, 0] ?_; refine runs_seq ?_; refine sr ?_; refine o1 (mv ?_); refine o1 (mv ?_); refine o1 (le1 us22 ?_); refine o1 (ilt ?_); refine o1 (mv ?_)
    apply ops_and (yt := 16) (d := 14) 2 rfl rfl rfl (.none rfl) rfl rfl
    case h1 =>
      intro hb9 hK
      have hc := hb9; (try simp only [nrm, Int.reduceEq, Int.reduceNe, Int.reduceLT, Int.reduceLE] at hc)
      refine gye ?_ (hbw := by exact hb9); refine o1 (mv ?_); refine gye ?_ (hbw := by exact hb9); refine o1 (ilt ?_); exact hK [_, _] rfl rfl
    case h2 =>
      intro hb9 hK; refine gno ?_ (hbw := by exact hb9); refine gno ?_ (hbw := by exact hb9); exact hK [_, _] rfl
    refine nx ?_; refine cdf (fun h5 => ?_) (fun h5 => ?_)
    · (try simp only [nrm, Int.reduceEq, Int.reduceNe, Int.reduceLT, Int.reduceLE] at h5)
      refine runs_exit ?_; refine seq_exit ?_; refine seq_exit ?_; refine inb_exit ?_; refine seq_normal ?_; refine kp [] ?_; refine sr ?_; refine o1 (asg ?_); refine nx ?_; refine runs_ret ?_; refine fin_ret ?_; refine fin_d1 rfl rfl ?_
      rfl
    (try simp only [nrm, Int.reduceEq, Int.reduceNe, Int.reduceLT, Int.reduceLE] at h5); refine runs_skip ?_; refine seq_normal ?_; refine runs_seq ?_; refine runs_block ?_; refine runs_seq ?_; refine kp [4, 0] ?_
    have hin : i < l.length := (by omega)
    have hoi := hl l[i] (List.getElem_mem hin)
    have q2 := moved_spec (g := g) h3g h7g l[i].k l[i].s l[i].t l[i].u l[i].a l[i].b hoi.1 hoi.2
    unfold opD at q2
    refine runs_region ?_; refine o1 (mv ?_); refine o1 (mv ?_); refine o1 (ixs us22 te22 ?_ (he := by exact (step_at hin))); refine o1 (ldc ti25 ?_); refine oc (cv ca6 rfl rfl (q2) (fid .nil) ?_); refine o1 (asg ?_); refine nx ?_
    refine kp [5, 4, 0] ?_; refine sr ?_; refine o1 (mv ?_); refine o1 (f_not ?_); refine nx ?_; refine cd (fun h8 => ?_) (fun h8 => ?_)
    · simp only [nrm, Int.reduceEq, Int.reduceNe, Int.reduceLT, Int.reduceLE] at h8
    (try simp only [nrm, Int.reduceEq, Int.reduceNe, Int.reduceLT, Int.reduceLE] at h8); refine runs_skip ?_; refine inb_normal ?_; refine seq_normal ?_; refine runs_region ?_; refine o1 (mv ?_); refine o1 (iad ?_); refine o1 (asg ?_)
    refine ops_nil ?_; refine seq_back ?_; refine back_i (i + 1) rfl ?_ ?_
    · exact ⟨⟨by omega, by omega⟩, by omega⟩
    · refine mo ?_ (sly (sly slz))
      exact boz
end Go.Proofs.YtneaancanfpdhaaGreatDoor
namespace Go.Proofs.YtneaancanfpdhaaGreatDoor
open Go Go.Vd Go.RowKit Go.ChangeShapes Go.WideShapes
theorem own : ownKnob Tryz.prog.godebug = none := by kernel_rfl
def glP : Nat → List D := glT fun
  | 3 => wordsD
  | 7 => p10D
  | _ => []
theorem globP_of {w : World} (h0 : DenC (memW w) 0 0 [strsD wordsT]) (h1 : DenC (memW w) 1 0 (wordsT.map fun s => .v (.string s))) (h3 : DenC (memW w) 3 0 wordsD) (h7 : DenC (memW w) 7 0 p10D) : ∀ b, DenC (memW w) b 0 (glP b)
  | 0 => h0
  | 1 => h1
  | 2 => trivial
  | 3 => h3
  | 4 => trivial
  | 5 => trivial
  | 6 => trivial
  | 7 => h7
  | _ + 8 => trivial
def litS (s : ByteArray) : DataW Unit := .lit (.string s.data.toList)
theorem str_lit {W : World} {n : Nat} {v : Value} {x : DataW Unit × List MemPlace} {s : ByteArray} {sp : Nat → Bool} {hd : Bool} (h : DataW.trod (fun _ => ()) Tryz.prog W 0 sp hd n 9 [v] = some x) (hx : x.1 = litS s) : v = .string s := by
  obtain ⟨s', h1, h2, _⟩ := DataW.trod_string ut9 h
  simp only [List.cons.injEq, and_true] at h1
  subst h1 h2
  simp only [litS, DataW.lit.injEq, Lit.string.injEq] at hx
  congr 1
  exact ByteArray.ext (Array.ext' hx)
theorem nth_lit {elems : List (DataW Unit × List MemPlace)} (h : elems.map (·.1) = wordsT.map litS) {i : Nat} (hi : i < wordsT.length) : ∃ x, elems[i]? = some x ∧ x.1 = litS wordsT[i] := by
  have hl := congrArg List.length h
  simp only [List.length_map] at hl
  have h1 := congrArg (fun l => l[i]?) h
  simp only [List.getElem?_map] at h1
  rw [List.getElem?_eq_getElem (show i < elems.length by omega), List.getElem?_eq_getElem hi] at h1
  exact ⟨elems[i], List.getElem?_eq_getElem (by omega), Option.some.inj h1⟩
theorem rwords_of {W : World} {cs : Array Value} {fuel : Nat} {p : List MemPlace} (hv : Tryz.prog.globalNamed "provekernel/provekernelref.words" = some 0) (hw : W.var? Tryz.prog "provekernel/provekernelref.words" = some cs)
    (hd : DataW.trod (fun _ => ()) Tryz.prog W 0 (fun _ => true) false fuel 42 cs.toList = some (Rows.laid_provekernel_provekernelref_words, p)) : DenC (memW W) 0 0 [strsD wordsT] := by
  have hcell := fun i => World.var?_cell hv hw i
  have hu := us42
  have he : (tiOf Tryz.prog 42).elem = 9 := by rw [ti42]
  rw [he] at hu
  have c9 : Tryz.prog.cellsOf 9 = 1 := by kernel_rfl
  have hwl : wordsT.length = 7 := rfl
  rcases DataW.trod_slice hu hd with ⟨_, h1⟩ | ⟨a, len, cap, elems, rest, n, _, hcs, ex, _, h2, _, h3, h4, _⟩
  · exact absurd (congrArg Prod.fst h1) (by intro h; cases h)
  · have ex1 : (DataW.slice (wordsT.map litS) [] : DataW Unit) = .slice (elems.map (·.1)) (rest.map (·.1)) := congrArg Prod.fst ex
    have ex2 := (DataW.slice.inj ex1).1.symm
    have hel : elems.length = 7 := by have := congrArg List.length ex2; simpa [hwl] using this
    have key : ∀ i : Nat, (hi : i < wordsT.length) → W.cell? (a.add (i * 1)) = some (.string wordsT[i]) := fun i hi => by
      obtain ⟨x, hx1, hx2⟩ := nth_lit ex2 hi
      have := h4 i (by omega)
      rw [c9, hx1] at this
      obtain ⟨us, hus, hst⟩ := Option.bind_eq_some_iff.1 this
      obtain ⟨_, hlen, hc⟩ := World.cells?_some hus
      match us, hlen with
      | [u], _ =>
        have := hc 0 (by decide)
        rw [str_lit hst hx2] at this
        simpa [Addr.add] using this
    have hsp : a.spot = none := by
      have := key 0 (by decide)
      have e : a.add (0 * 1) = a := by simp [Addr.add]
      rw [e] at this
      exact World.cell?_spot this
    obtain ⟨ab, ao, asp⟩ := a
    simp only at hsp; subst hsp
    have hc0 := hcell 0
    obtain ⟨l⟩ := cs
    simp only at hcs
    subst hcs
    refine ⟨⟨_, memW_of (hcell 0) rfl, some ⟨ab, ao, none⟩, cap, ?_, ?_, fun _ => ⟨ab, ao, rfl, denR_of (fun s => [.v (.string s)]) fun i x hx => ⟨rfl, ?_⟩⟩⟩, trivial⟩
    · rw [strs_len, hwl, ← h3, hel]; rfl
    · rw [strs_len]; omega
    · obtain ⟨hi, rfl⟩ := List.getElem?_eq_some_iff.1 hx
      have := key i hi
      rw [addr_add] at this
      exact ⟨⟨_, memW_of this rfl, rfl⟩, trivial⟩
set_option maxRecDepth 100000 in
theorem twords_of {W : World} {cs : Array Value} {fuel : Nat} {p : List MemPlace} (hv : Tryz.prog.globalNamed "provekernel/term.words" = some 1) (hw : W.var? Tryz.prog "provekernel/term.words" = some cs)
    (hd : DataW.trod (fun _ => ()) Tryz.prog W 0 (fun _ => true) false fuel 121 cs.toList = some (Rows.laid_provekernel_term_words, p)) : DenC (memW W) 1 0 (wordsT.map fun s => .v (.string s)) := by
  have hcell := fun i => World.var?_cell hv hw i
  have c9 : Tryz.prog.cellsOf 9 = 1 := by kernel_rfl
  have c86 : Tryz.prog.cellsOf 121 = 7 := by kernel_rfl
  have hwl : wordsT.length = 7 := rfl
  obtain ⟨xs, m, _, ex, hcl, hl, hel⟩ := DataW.trod_array ua121 hd
  have ex1 : (DataW.agg (wordsT.map litS) : DataW Unit) = .agg (xs.map (·.1)) := congrArg Prod.fst ex
  have ex2 := (DataW.agg.inj ex1).symm
  obtain ⟨l⟩ := cs
  rw [c86] at hcl
  rw [c9] at hel
  have key : ∀ i : Nat, (hi : i < wordsT.length) → l[i]? = some (.string wordsT[i]) := fun i hi => by
    obtain ⟨x, hx1, hx2⟩ := nth_lit ex2 hi
    have := hel i (by omega)
    rw [hx1] at this
    have hil : i < l.length := by have : l.length = 7 := hcl; omega
    have e : (List.take 1 (List.drop (i * 1) l)) = [l[i]] := by rw [Nat.mul_one, List.drop_eq_getElem_cons hil]; rfl
    rw [show (({ toList := l } : Array Value).toList.drop (i * 1)).take 1 = [l[i]] from e] at this
    rw [List.getElem?_eq_getElem hil, str_lit this hx2]
  have hc : ∀ (i : Nat) v, l[i]? = some v → v.oneCell' = true → memW W 1 i = some v := fun i v h h1 => memW_of (by
    have := hcell i
    simpa [h] using this) h1
  exact ⟨⟨_, hc 0 _ (key 0 (by decide)) rfl, rfl⟩, ⟨_, hc 1 _ (key 1 (by decide)) rfl, rfl⟩, ⟨_, hc 2 _ (key 2 (by decide)) rfl, rfl⟩, ⟨_, hc 3 _ (key 3 (by decide)) rfl, rfl⟩, ⟨_, hc 4 _ (key 4 (by decide)) rfl, rfl⟩, ⟨_, hc 5 _ (key 5 (by decide)) rfl, rfl⟩, ⟨_, hc 6 _ (key 6 (by decide)) rfl, rfl⟩, trivial⟩
set_option maxRecDepth 100000 in
theorem lwords_of {W : World} {cs : Array Value} {fuel : Nat} {p : List MemPlace} (hv : Tryz.prog.globalNamed "provekernel/level.words" = some 3) (hw : W.var? Tryz.prog "provekernel/level.words" = some cs)
    (hd : DataW.trod (fun _ => ()) Tryz.prog W 0 (fun _ => true) false fuel 155 cs.toList = some (Rows.laid_provekernel_level_words, p)) : DenC (memW W) 3 0 wordsD := by
  have hcell := fun i => World.var?_cell hv hw i
  have c9 : Tryz.prog.cellsOf 9 = 1 := by kernel_rfl
  have c86 : Tryz.prog.cellsOf 155 = 4 := by kernel_rfl
  obtain ⟨xs, m, _, ex, hcl, hl, hel⟩ := DataW.trod_array ua155 hd
  have ex1 : (DataW.agg ([⟨#[]⟩, ⟨#[115]⟩, ⟨#[109, 97, 120]⟩, ⟨#[105, 109, 97, 120]⟩].map litS) : DataW Unit) = .agg (xs.map (·.1)) := congrArg Prod.fst ex
  have ex2 := (DataW.agg.inj ex1).symm
  obtain ⟨l⟩ := cs
  rw [c86] at hcl
  rw [c9] at hel
  have key : ∀ (i : Nat) (s : ByteArray), ([⟨#[]⟩, ⟨#[115]⟩, ⟨#[109, 97, 120]⟩, ⟨#[105, 109, 97, 120]⟩] : List ByteArray)[i]? = some s → l[i]? = some (.string s) := fun i s hi => by
    have h1 := congrArg (fun l => l[i]?) ex2
    simp only [List.getElem?_map, hi, Option.map_some] at h1
    obtain ⟨x, hx1, hx2⟩ := Option.map_eq_some_iff.1 h1
    have hi4 : i < 4 := (List.getElem?_eq_some_iff.1 hi).1
    have := hel i hi4
    rw [hx1] at this
    have hil : i < l.length := by have : l.length = 4 := hcl; omega
    have e : (List.take 1 (List.drop (i * 1) l)) = [l[i]] := by rw [Nat.mul_one, List.drop_eq_getElem_cons hil]; rfl
    rw [show (({ toList := l } : Array Value).toList.drop (i * 1)).take 1 = [l[i]] from e] at this
    rw [List.getElem?_eq_getElem hil, str_lit this hx2]
  have hc : ∀ (i : Nat) v, l[i]? = some v → v.oneCell' = true → memW W 3 i = some v := fun i v h h1 => memW_of (by
    have := hcell i
    simpa [h] using this) h1
  exact ⟨⟨_, hc 0 _ (key 0 _ rfl) rfl, rfl⟩, ⟨_, hc 1 _ (key 1 _ rfl) rfl, rfl⟩, ⟨_, hc 2 _ (key 2 _ rfl) rfl, rfl⟩, ⟨_, hc 3 _ (key 3 _ rfl) rfl, rfl⟩, trivial⟩
theorem int_lit {W : World} {n : Nat} {v : Value} {x : DataW Unit × List MemPlace} {z : Int} {sp : Nat → Bool} {hd : Bool} (h : DataW.trod (fun _ => ()) Tryz.prog W 0 sp hd n 179 [v] = some x) (hx : x.1 = .lit (.int .u64 z)) : v = .int .u64 z := by
  obtain ⟨s', h1, h2, _⟩ := DataW.trod_int ui179 h
  simp only [List.cons.injEq, and_true] at h1
  subst h1 h2
  simp only [DataW.lit.injEq, Lit.int.injEq] at hx
  rw [hx.2]
theorem den_map {m : Mem} {b : Nat} {α : Type} (f : α → D) : ∀ {l : List α} {off : Nat}, (∀ (i : Nat) x, l[i]? = some x → ∃ v, m b (off + i) = some v ∧ (f x).Den m v) → DenC m b off (l.map f)
  | [], _, _ => trivial
  | x :: r, off, h => ⟨by simpa using h 0 x rfl, den_map f fun i y hy => by
      have := h (i + 1) y (by simpa using hy)
      rwa [show off + (i + 1) = off + 1 + i by omega] at this⟩
set_option maxRecDepth 100000 in
theorem p10_of {W : World} {cs : Array Value} {fuel : Nat} {p : List MemPlace} (hv : Tryz.prog.globalNamed "internal/strconv.uint64pow10" = some 7) (hw : W.var? Tryz.prog "internal/strconv.uint64pow10" = some cs)
    (hd : DataW.trod (fun _ => ()) Tryz.prog W 0 (fun _ => true) false fuel 197 cs.toList = some (Rows.laid_internal_strconv_uint64pow10, p)) : DenC (memW W) 7 0 p10D := by
  have hcell := fun i => World.var?_cell hv hw i
  have c9 : Tryz.prog.cellsOf 179 = 1 := by kernel_rfl
  have c86 : Tryz.prog.cellsOf 197 = 20 := by kernel_rfl
  obtain ⟨xs, m, _, ex, hcl, hl, hel⟩ := DataW.trod_array ua197 hd
  have ex1 : (DataW.agg (Lib.pow10Tab.map fun z => DataW.lit (.int .u64 z)) : DataW Unit) = .agg (xs.map (·.1)) := congrArg Prod.fst ex
  have ex2 := (DataW.agg.inj ex1).symm
  obtain ⟨l⟩ := cs
  rw [c86] at hcl
  rw [c9] at hel
  have key : ∀ (i : Nat) (z : Int), Lib.pow10Tab[i]? = some z → l[i]? = some (.int .u64 z) := fun i z hi => by
    have h1 := congrArg (fun l => l[i]?) ex2
    simp only [List.getElem?_map, hi, Option.map_some] at h1
    obtain ⟨x, hx1, hx2⟩ := Option.map_eq_some_iff.1 h1
    have hi4 : i < 20 := by have := (List.getElem?_eq_some_iff.1 hi).1; rwa [Lib.pow10Tab_length] at this
    have := hel i hi4
    rw [hx1] at this
    have hil : i < l.length := by have : l.length = 20 := hcl; omega
    have e : (List.take 1 (List.drop (i * 1) l)) = [l[i]] := by rw [Nat.mul_one, List.drop_eq_getElem_cons hil]; rfl
    rw [show (({ toList := l } : Array Value).toList.drop (i * 1)).take 1 = [l[i]] from e] at this
    rw [List.getElem?_eq_getElem hil, int_lit this hx2]
  have hc : ∀ (i : Nat) v, l[i]? = some v → v.oneCell' = true → memW W 7 i = some v := fun i v h h1 => memW_of (by
    have := hcell i
    simpa [h] using this) h1
  exact den_map _ fun i z hz => ⟨_, by rw [Nat.zero_add]; exact hc i _ (key i z hz) rfl, rfl⟩
theorem glob_of_laid {W : World} (h : laidMetH Tryz.prog Rows.termMovesRow.laid W) : ∀ b, DenC (memW W) b 0 (glP b) := by
  rw [MakeChecks.laidMetH_plain _ _ _ (by kernel_rfl)] at h
  have h' : laidMet Tryz.prog [("math/bits.deBruijn32tab", Rows.laid_math_bits_deBruijn32tab), ("math/bits.deBruijn64tab", Rows.laid_math_bits_deBruijn64tab), ("internal/strconv.uint64pow10", Rows.laid_internal_strconv_uint64pow10), ("provekernel/provekernelref.words", Rows.laid_provekernel_provekernelref_words), ("provekernel/level.words", Rows.laid_provekernel_level_words), ("provekernel/term.words", Rows.laid_provekernel_term_words)] W := h
  obtain ⟨ps, hL, _, _⟩ := h'
  obtain ⟨_, _, _, _, _, _, _, _, _, _, hL, _⟩ := hL
  obtain ⟨_, _, _, _, _, _, _, _, _, _, hL, _⟩ := hL
  obtain ⟨g3, t3, cs3, fu3, p3, q3, hg3, ht3, hv3, hd3, hL, _⟩ := hL
  obtain ⟨g4, t4, cs4, fu4, p4, q4, hg4, ht4, hv4, hd4, hL, _⟩ := hL
  obtain ⟨g5, t5, cs5, fu5, p5, q5, hg5, ht5, hv5, hd5, hL, _⟩ := hL
  obtain ⟨g7, t7, cs7, fu7, p7, q7, hg7, ht7, hv7, hd7, _, _⟩ := hL
  have n3 : Tryz.prog.globalNamed "internal/strconv.uint64pow10" = some 7 := by kernel_rfl
  have n4 : Tryz.prog.globalNamed "provekernel/provekernelref.words" = some 0 := by kernel_rfl
  have n5 : Tryz.prog.globalNamed "provekernel/level.words" = some 3 := by kernel_rfl
  have n7 : Tryz.prog.globalNamed "provekernel/term.words" = some 1 := by kernel_rfl
  obtain rfl := Option.some.inj (n3.symm.trans hg3)
  obtain rfl := Option.some.inj (n4.symm.trans hg4)
  obtain rfl := Option.some.inj (n5.symm.trans hg5)
  obtain rfl := Option.some.inj (n7.symm.trans hg7)
  obtain rfl := Option.some.inj ((show (Tryz.prog.globals[7]?).map (·.type) = some 197 by kernel_rfl).symm.trans ht3)
  obtain rfl := Option.some.inj ((show (Tryz.prog.globals[0]?).map (·.type) = some 42 by kernel_rfl).symm.trans ht4)
  obtain rfl := Option.some.inj ((show (Tryz.prog.globals[3]?).map (·.type) = some 155 by kernel_rfl).symm.trans ht5)
  obtain rfl := Option.some.inj ((show (Tryz.prog.globals[1]?).map (·.type) = some 121 by kernel_rfl).symm.trans ht7)
  exact globP_of (rwords_of n4 hv4 hd4) (twords_of n7 hv7 hd7) (lwords_of n5 hv5 hd5) (p10_of n3 hv3 hd3)
theorem door_met (os : Os) (args : Array Value) : laidMetH Tryz.prog Rows.termMovesRow.laid ((World.doorLaid Tryz.prog 400 os).forCall (fun _ _ => 0) ⟨#[], args, []⟩).memory :=
  laidMetH_of_parts3 (fuel := 8) (laidMet_of_run' 8 (by kernel_rfl) (by kernel_rfl)) (by kernel_rfl) (by kernel_rfl)
set_option maxRecDepth 100000 in
theorem termmoves_lifted (os : Os) (started : os.Started) (H : Type) (enc : TypeId × Value → H) :
    ReturnsInHanded {} Tryz.checked os 3 .any (fun w args => (Rows.termMovesSpec.pre enc Tryz.prog Tryz.f3 [] false w args ∧ laidMetH Tryz.prog Rows.termMovesRow.laid w) ∧ sizedMet enc Tryz.prog Tryz.f3 (OpenSpec.ofChange Rows.termMovesSpec) false w args)
      (Rows.termMovesSpec.post enc Tryz.prog Tryz.f3 false true false false) := by
  refine returnsInHanded_of_change_and (C := Tryz.checked) (X := fun w _ => laidMetH Tryz.prog Rows.termMovesRow.laid w) (fun _ _ _ hh h => h.of_heap hh) own started (by kernel_rfl) Tryz.func3
    (ChangeSpec.witness_shaped (enc := enc) (C := Tryz.checked) (os := os) (X := fun w _ => laidMetH Tryz.prog Rows.termMovesRow.laid w) false (World.doorLaid Tryz.prog 400 os) #[.slice none 0 0] 8 rfl (World.shaped_of_RefB (by kernel_rfl) (by kernel_rfl)) (by kernel_rfl) (by kernel_rfl) (by kernel_rfl) (door_met os _)) ?_
  intro W base args ds gs before hval0 hW _ _ hL _
  have hval : ∀ (j : Nat) t v, Tryz.f3.params[j]? = some t → args[j]? = some v → Value.okWide Tryz.prog W .any base t v := hval0
  have hW' := hW
  obtain ⟨p, q, hA0, hV, rfl, hfz, hnd⟩ := hW
  have hA : DataW.TrodAll enc Tryz.prog W 0 (fun _ => true) true Tryz.f3.params.toList args.toList ds p := hA0
  rw [Tryz.params3] at hA hval
  obtain ⟨v0, d0, rfl, rfl, h0⟩ := trodAll_one hA
  obtain ⟨rfl, rfl⟩ := trodVars_none hV
  obtain ⟨a, len, cap, rfl⟩ := okWide_slice us22 (hval 0 22 v0 rfl rfl)
  have h0' := h0
  obtain ⟨fuel, hf⟩ := h0
  obtain ⟨l, hl, hk⟩ := script_of_trod hf rfl
  have hglob := glob_of_laid hL
  have hcalls := calls_of_triD (w := W) (termMoves_spec (g := _) rfl rfl l hk) hglob (vs := [.slice a len cap]) ⟨_, [], rfl, hl, rfl⟩
  simp only [List.append_nil] at hW'
  refine hcalls.mono fun e W' ⟨v, d, m, he, hv, hd, hb⟩ => ?_
  subst hd
  simp only [D.Den] at hv
  subst hv
  have hlt : ∀ x ∈ p, x.block < W.heap.size := DataW.TrodAll.lt hA
  refine ⟨_, he, [d0], [], p, [], p, [], hW', trodAll_mk1 (shut_bool ub4 _), ?_, rfl, hb.frame _, fun h => by cases h⟩
  exact trodAll_mk1 (hb.trod (by kernel_rfl) (by kernel_rfl) (of_decide_eq_true (by kernel_rfl)) h0' hlt)
theorem termmoves_holds : Rows.TermMovesSaid :=
  OpenClaim.holds_of_wide 3 Tryz.f3 rfl rfl rfl rfl rfl rfl rfl ⟨rfl, rfl, rfl, rfl, rfl⟩ rfl rfl rfl rfl rfl (by kernel_rfl) Tryz.func3 (by kernel_rfl)
    (of_decide_eq_true (by kernel_rfl)) (by unfold Func.isWrapper; first | (rw [if_pos (by decide +kernel)]; kernel_rfl) | (rw [if_neg (by decide +kernel)]; exact ⟨rfl, rfl⟩))
    (fun os started H enc _ => termmoves_lifted os started H enc)
theorem termmoves_card_holds : Rows.TermMovesCardSaid :=
  Claim7.holds_tied_plain_at .later [] [.data, .data, .data, .data, .data, .widerDeep] true (true, "4b87d088401218a495192ad6640b326a3c358b6f959a5cc64254f0f310b3a94d") true
    termmoves_holds (fun _ h => by cases h) (by kernel_rfl) (fun _ h => by cases h) termMoves_row_tie rfl ⟨rfl, rfl⟩ (by kernel_rfl) rfl
    (fun f fn hf hfn => by
      obtain rfl : f = 3 := Option.some.inj ((show Tryz.prog.funcNamed "provekernel/provekernellaw.TermMoves" = some 3 by kernel_rfl).symm.trans hf) |>.symm
      obtain rfl : fn = Tryz.f3 := (Option.some.inj (Tryz.func3.symm.trans hfn)).symm
      exact ⟨by kernel_rfl, fun j t ht => by
        rw [Tryz.params3] at ht
        have hm : t ∈ [22] := by simpa using Array.mem_of_getElem? ht
        have hall : ([22].all fun u => !Tryz.prog.wantsStandIn u) = true := by kernel_rfl
        exact (show Tryz.prog.wantsStandIn t = false by simpa using List.all_eq_true.1 hall t hm)⟩)
    (by kernel_rfl)
#print axioms termmoves_card_holds
end Go.Proofs.YtneaancanfpdhaaGreatDoor
